import Derived.Test.YtjblhgpbkfmkoaaDnB
import Derived.ProofKit
import Derived.OpenShut
import Derived.Laws.CopyRow
import Derived.Lib.AppendZerosOnto
import Derived.Lib.Overlaps
import Derived.Laws.Externs
import Derived.Control
import Derived.Maps.RangeRun
import Derived.ScopeJumps
/-
  What arguments read as: values of their types. Conditions: none.
-/
set_option linter.unusedSimpArgs false
set_option linter.unusedVariables false
namespace Dn
open Go Go.WideShapes
def ue (W:World):Ph:=fun b o=>W.cell? ⟨b,o,none⟩
theorem KG (W:World):vR (ue W) W:=fun b o v h=>h
def Bp (P:Program):List Field→Nat→Nat→Bool
 |[],o,n=>Nat.beq o n
 |f::fs,o,n=>Nat.beq f.offset o&&Bp P fs (o+P.cellsOf f.type) n
def OD (P:Program):Nat→TypeId→Bool
 |0,_=>false
 |d+1,t=>match P.underlying t with
  |some .bool=>true
  |some (.int _)=>true
  |some .string=>true
  |some (.slice e)=>OD P d e&&Nat.ble 1 (P.cellsOf e)
  |some (.struct fs)=>Bp P fs.toList 0 (P.cellsOf t)&&fs.toList.all fun f=>OD P d f.type
  |some (.array n e)=>Nat.beq n 32&&(match P.underlying e with|some (.int .u8)=>true|_=>false)&&Nat.beq (P.cellsOf e) 1&&Nat.beq (P.cellsOf t) 32
  |_=>false
def ME (P:Program) (F:TypeId→List MV→Prop) (e:TypeId) (x:MV):Prop:=
 match P.underlying e with
 |some (.struct _)=> ∃cs,x= .agg cs∧F e cs
 |_=>F e [x]
def FT (F:TypeId→List MV→Prop):List TypeId→List MV→Prop
 |[],ms=>ms=[]
 |t::ts,ms=> ∃a b,ms=a++b∧F t a∧FT F ts b
def MT (P:Program):Nat→TypeId→List MV→Prop
 |0,_,_=>False
 |d+1,t,ms=>match P.underlying t with
  |some .bool=> ∃b,ms=[.b b]
  |some (.int k)=> ∃n,ms=[.i k n]∧(Lit.int k n).wf=true
  |some .string=> ∃l:List UInt8,ms=[.s l]∧l.length≤maxLen
  |some (.slice e)=> ∃xs,ms=[.list xs]∧xs.length≤maxLen∧ ∀x∈xs,ME P (MT P d) e x
  |some (.struct fs)=>FT (MT P d) (fs.toList.map (·.type)) ms
  |some (.array _ _)=> ∃h,ms=[.h h]
  |_=>False
section
variable {H:Type} {enc:TypeId×Value→H} {P:Program} {W:World} {base:Nat} {sp:Nat→Bool} {held:Bool} {key:Nat→Nat}
theorem dp.append {key:Nat→Nat} {φ:Ph} {ms ns:List MV}: ∀{vs us:List Value},dp key φ vs ms→dp key φ us ns→dp key φ (vs++us) (ms++ns):=by
 induction ms with
 |nil=>intro vs us h h';cases h;simpa using h'
 |cons m ms ih=>
  intro vs us h h'
  cases h with
  |cons v _ vs _ h1 h2=>rw [List.append_assoc];exact .cons v m _ _ h1 (ih h2 h')
theorem dp.KH {key:Nat→Nat} {φ:Ph} {v:Value} {m:MV} (h:fK key φ [v] m):dp key φ [v] [m]:=by
 have:=dp.cons [v] m [] [] h .nil
 simpa using this
theorem dp.single {key:Nat→Nat} {φ:Ph} {vs:List Value} {m:MV} (h:dp key φ vs [m]):fK key φ vs m:=by
 cases h with
 |cons v _ vs _ h1 h2=>cases h2;simpa using h1
theorem uf {a:Addr} {n:Nat} {cs:List Value} (h:W.cells? base a n=some cs):cs.length=n∧ ∀j,j<n→W.cell? (a.add j)=cs[j]? :=by
 unfold World.cells? at h
 split at h
 ·have hl:=mapM_some_length h
  refine ⟨by simpa using hl,fun j hj=> ?_⟩
  exact mapM_some_get h j j (by simp [hj])
 ·cases h
theorem CR {F:TypeId→List MV→Prop} {fuel:Nat} {cs:List Value}: ∀(fs:List Field) (o n:Nat) (xs:List (DataW H×List MemPlace)),Bp P fs o n=true→cs.length=n→
 (∀(i:Nat) (f:Field),fs[i]? =some f→DataW.trod enc P W base sp held fuel f.type ((cs.drop f.offset).take (P.cellsOf f.type))=xs[i]?)→xs.length=fs.length→
 (∀f∈fs,∀cT x,DataW.trod enc P W base sp held fuel f.type cT=some x→ ∃ms,dp key (ue W) cT ms∧F f.type ms)→
 ∃ms,dp key (ue W) (cs.drop o) ms∧FT F (fs.map (·.type)) ms:=by
 intro fs
 induction fs with
 |nil=>
  intro o n xs hc hl _ _ _
  have:o=n:=Nat.eq_of_beq_eq_true hc
  subst this
  refine ⟨[],?_,rfl⟩
  rw [←hl,List.drop_length];exact .nil
 |cons f fs ih=>
  intro o n xs hc hl hx MQ hF
  simp only [Bp,Bool.and_eq_true] at hc
  have ho:=Nat.eq_of_beq_eq_true hc.1
  cases xs with
  |nil=>simp at MQ
  |cons x xs=>
   have h0:=hx 0 f rfl
   rw [ho] at h0
   obtain ⟨m1,r1,t1⟩:=hF f (by simp) _ x (by simpa using h0)
   obtain ⟨m2,r2,t2⟩:=ih (o+P.cellsOf f.type) n xs hc.2 hl (fun i g hg=>by have:=hx (i+1) g (by simpa using hg);simpa using this) (by simpa using MQ) (fun g hg=>hF g (by simp [hg]))
   refine ⟨m1++m2,?_,m1,m2,rfl,t1,t2⟩
   have:=r1.append r2
   rw [←List.drop_drop,List.take_append_drop] at this
   exact this
theorem KI: ∀(fuel D:Nat) (t:TypeId) (cs:List Value) (x:DataW H×List MemPlace),OD P D t=true→DataW.trod enc P W base sp held fuel t cs=some x→
 ∃ms,dp key (ue W) cs ms∧MT P fuel t ms:=by
 intro fuel
 induction fuel with
 |zero=>intro D t cs x _ h;simp [DataW.trod] at h
 |succ fuel ih=>
  intro D t cs x hD h
  cases D with
  |zero=>simp [OD] at hD
  |succ D=>
   unfold OD at hD
   cases hu:P.underlying t with
   |none=>simp [hu] at hD
   |some d=>
    cases d<;>simp only [hu] at hD<;>try (cases hD;done)
    case bool=>
     obtain ⟨b,rfl,_⟩:=DataW.trod_bool hu h
     exact ⟨[.b b],.KH (.b b),by simp only [MT,hu];exact ⟨b,rfl⟩⟩
    case int k=>
     obtain ⟨n,rfl,_,hw⟩:=DataW.trod_int hu h
     exact ⟨[.i k n],.KH (.i k n),by simp only [MT,hu];exact ⟨n,rfl,hw⟩⟩
    case string=>
     obtain ⟨s,rfl,_,hw⟩:=DataW.trod_string hu h
     exact ⟨[.s s.data.toList],.KH (.s s),by simp only [MT,hu];exact ⟨_,rfl,by simpa using hw⟩⟩
    case struct fs=>
     obtain ⟨xs,n,hn,_,hl,MQ,hx⟩:=DataW.trod_struct hu h
     have hn:n=fuel:=by omega
     subst hn
     simp only [Bool.and_eq_true] at hD
     obtain ⟨ms,r1,t1⟩:=CR (F:=MT P n) (key:=key) fs.toList 0 (P.cellsOf t) xs hD.1 hl (fun i f hf=>hx i f (by simpa using hf)) (by simpa using MQ)
      (fun f hf cT x' h'=>ih D f.type cT x' (List.all_eq_true.1 hD.2 f hf) h')
     exact ⟨ms,by simpa using r1,by simp only [MT,hu];exact t1⟩
    case slice e=>
     simp only [Bool.and_eq_true] at hD
     have ek:1≤P.cellsOf e:=Nat.le_of_ble_eq_true hD.2
     rcases DataW.trod_slice hu h with ⟨rfl,_⟩|⟨a,len,cap,elems,rest,n,hn,rfl,_,_,Zx,II,Rc,hx,_⟩
     ·refine ⟨[.list []],.KH (.list none 0 [] 0 0 0 (fun _=>[]) (by simp) (by simp) (by simp) (by simp) (by simp)),?_⟩
      simp only [MT,hu]
      exact ⟨[],rfl,Nat.zero_le _,by simp⟩
     ·have hn:n=fuel:=by omega
      subst hn
      have eN: ∀i,i<len→ ∃cT m,W.cells? base (a.add (i *P.cellsOf e)) (P.cellsOf e)=some cT∧fK key (ue W) cT m∧ME P (MT P n) e m:=by
       intro i hi
       have h1:=hx i hi
       cases hc:W.cells? base (a.add (i *P.cellsOf e)) (P.cellsOf e) with
       |none=>
        rw [hc] at h1
        have:elems[i]? =none:=by simpa using h1.symm
        rw [List.getElem?_eq_none_iff] at this
        omega
       |some cT=>
        rw [hc] at h1
        have dE:i<elems.length:=by omega
        rw [List.getElem?_eq_getElem dE] at h1
        obtain ⟨ms,r1,t1⟩:=ih D e cT _ hD.1 (by simpa using h1)
        have Hz:=hD.1
        by_cases hs: ∃fs,P.underlying e=some (.struct fs)
        ·obtain ⟨fs,hs⟩:=hs
         exact ⟨cT,.agg ms,rfl,.agg cT ms r1,by simp only [ME,hs];exact ⟨ms,rfl,t1⟩⟩
        ·have Zy: ∃m,ms=[m]:=by
          cases n with
          |zero=>exact t1.elim
          |succ n=>
           simp only [MT] at t1
           cases Ok:P.underlying e with
           |none=>simp [Ok] at t1
           |some de=>
            cases de<;>simp only [Ok] at t1<;>first
             |exact t1.elim
             |(obtain ⟨y,hy,_⟩:=t1;exact ⟨_,hy⟩)
             |(obtain ⟨y,hy⟩:=t1;exact ⟨_,hy⟩)
             |exact absurd ⟨_,Ok⟩ hs
         obtain ⟨m,rfl⟩:=Zy
         refine ⟨cT,m,rfl,r1.single,?_⟩
         unfold ME
         cases Ok:P.underlying e with
         |none=>exact t1
         |some de=>cases de<;>first|exact t1|exact absurd ⟨_,Ok⟩ hs
      let f:Nat→List Value:=fun i=>(W.cells? base (a.add (i *P.cellsOf e)) (P.cellsOf e)).getD []
      let g:Nat→MV:=fun i=>if hi:i<len then Classical.choose (Classical.choose_spec (eN i hi)) else default
      have Ca: ∀i,i<len→W.cells? base (a.add (i *P.cellsOf e)) (P.cellsOf e)=some (f i)∧fK key (ue W) (f i) (g i)∧ME P (MT P n) e (g i):=by
       intro i hi
       have Rq:=Classical.choose_spec (Classical.choose_spec (eN i hi))
       have hf:f i=Classical.choose (eN i hi):=by
        show (W.cells? base (a.add (i *P.cellsOf e)) (P.cellsOf e)).getD []=_
        exact congrArg (fun o=>o.getD []) Rq.1
       have hg:g i=Classical.choose (Classical.choose_spec (eN i hi)):=by
        show (if hi:i<len then _ else _)=_
        rw [dif_pos hi]
       rw [hf,hg];exact Rq
      have OE:0<len→a=⟨a.block,a.off,none⟩:=by
       intro h0
       obtain ⟨h1,_,_⟩:=Ca 0 h0
       obtain ⟨lL,VR⟩:=uf h1
       have:=VR 0 (by omega)
       rw [Nat.zero_mul] at this
       have hz:(a.add 0).add 0=a:=rfl
       rw [hz] at this
       have dE:0<(f 0).length:=by omega
       rw [List.getElem?_eq_getElem dE] at this
       unfold World.cell? at this
       split at this
       ·cases Rq:a.spot with
        |none=>cases a;simp at Rq;subst Rq;rfl
        |some s=>simp [Rq] at this
       ·cases this
      have SP: ∀i j,i<len→j<P.cellsOf e→ue W a.block (a.off+i *P.cellsOf e+j)=(f i)[j]? :=by
       intro i j hi hj
       obtain ⟨h1,_,_⟩:=Ca i hi
       obtain ⟨lL,VR⟩:=uf h1
       have:=VR j hj
       rw [←this]
       unfold ue
       congr 1
       have ha:=OE (by omega)
       rw [ha]
       rw [Addr.add_mid,Addr.add_mid]
      refine ⟨[.list ((List.range len).map g)],.KH ?_,?_⟩
      ·have hlen:((List.range len).map g).length=len:=by simp
       have:=fK.list (key:=key) (φ:=ue W) (some a) cap ((List.range len).map g) a.block a.off (P.cellsOf e) f (by rw [hlen];exact Zx) (fun h0=>by rw [hlen] at h0;exact congrArg some (OE h0))
        (fun i hi=>by rw [hlen] at hi;exact (uf (Ca i hi).1).1) (fun i j hi hj=>SP i j (by rw [hlen] at hi;exact hi) hj)
        (fun i hi=>by simp at hi;simpa using (Ca i hi).2.1)
       rw [hlen] at this
       exact this
      ·simp only [MT,hu]
       refine ⟨_,rfl,by simp;omega,fun y hy=> ?_⟩
       obtain ⟨i,hi,rfl⟩:=List.mem_map.1 hy
       exact (Ca i (by simpa using hi)).2.2
    case array n e=>
     simp only [Bool.and_eq_true] at hD
     obtain ⟨⟨⟨h1,h2⟩,h3⟩,h4⟩:=hD
     have h1:=Nat.eq_of_beq_eq_true h1
     have h3:=Nat.eq_of_beq_eq_true h3
     have h4:=Nat.eq_of_beq_eq_true h4
     subst h1
     obtain ⟨xs,m,hm,_,hl,MQ,hx⟩:=DataW.trod_array hu h
     rw [h4] at hl
     split at h2
     ·rename_i Ok
      have lJ: ∀i (hi:i<cs.length),∃b:UInt8,cs[i]= .int .u8 (b.toNat:Int):=by
       intro i hi
       have EB:i<32:=by omega
       have:=hx i EB
       rw [h3,Nat.mul_one] at this
       have IQ:(cs.drop i).take 1=[cs[i]]:=by
        rw [List.take_one,List.head?_drop,List.getElem?_eq_getElem hi];rfl
       rw [IQ,List.getElem?_eq_getElem (by omega)] at this
       obtain ⟨k,hk,_,hw⟩:=DataW.trod_int Ok this
       simp only [List.cons.injEq,and_true] at hk
       refine ⟨UInt8.ofNat k.toNat,?_⟩
       rw [hk]
       simp only [Lit.wf,Bool.and_eq_true,decide_eq_true_eq] at hw
       have JJ:IntKind.u8.min=0:=by decide
       have VS:IntKind.u8.max=255:=by decide
       rw [JJ,VS] at hw
       congr 1
       have:(UInt8.ofNat k.toNat).toNat=k.toNat:=by
        rw [UInt8.toNat_ofNat'];omega
       rw [this];omega
      have: ∃l:List UInt8,cs=l.map fun b=>Value.int .u8 (b.toNat:Int):=by
       clear hx hl h
       induction cs with
       |nil=>exact ⟨[],rfl⟩
       |cons c cs Zz=>
        obtain ⟨b,hb⟩:=lJ 0 (by simp)
        obtain ⟨l,hl⟩:=Zz (fun i hi=>by have:=lJ (i+1) (by simpa using hi);simpa using this)
        exact ⟨b::l,by simp at hb;rw [hb,hl];rfl⟩
      obtain ⟨l,rfl⟩:=this
      have P1:l.length=32:=by simpa using hl
      refine ⟨[.h ⟨l,P1⟩],?_,by simp only [MT,hu];exact ⟨_,rfl⟩⟩
      have:=dp.cons (key:=key) (φ:=ue W) _ (.h ⟨l,P1⟩) [] [] (.h ⟨l,P1⟩) .nil
      simpa using this
     ·cases h2
theorem KJ {r:Reach} {b0 D:Nat} {t:TypeId} {v:Value} {d:DataW H} {ps:List MemPlace} (hD:OD P D t=true) (hv:Value.okWide P W r b0 t v) (h:DataW.Trod enc P W base sp held t v d ps):
 ∃m n,dv key (ue W) v m∧ME P (MT P n) t m:=by
 obtain ⟨fuel,hf⟩:=h
 obtain ⟨ms,r1,t1⟩:=KI (key:=key) fuel D t _ _ hD hf
 cases fuel with
 |zero=>exact t1.elim
 |succ fuel=>
  have t2:=t1
  simp only [MT] at t1
  cases hu:P.underlying t with
  |none=>simp [hu] at t1
  |some k=>
   simp only [hu] at t1
   cases k<;>simp only at t1<;>try (exact t1.elim)
   case bool=>
    obtain ⟨b,rfl⟩:=t1
    obtain ⟨b',rfl⟩:=okWide_bool hu hv
    refine ⟨.b b,fuel+1,⟨rfl,r1.single⟩,by unfold ME;simp only [hu];exact t2⟩
   case int k=>
    obtain ⟨n,rfl,_⟩:=t1
    obtain ⟨n',rfl⟩:=okWide_int hu hv
    refine ⟨.i k n,fuel+1,⟨rfl,r1.single⟩,by unfold ME;simp only [hu];exact t2⟩
   case string=>
    obtain ⟨l,rfl,_⟩:=t1
    obtain ⟨s',rfl⟩:=okWide_string hu hv
    refine ⟨.s l,fuel+1,⟨rfl,r1.single⟩,by unfold ME;simp only [hu];exact t2⟩
   case slice e=>
    obtain ⟨xs,rfl,_⟩:=t1
    have ZA:v.cells.toList=[v]:=by
     simp only [Value.okWide,hu,Cell.okWide] at hv
     cases v<;>simp_all [Cell.ok,Value.cells]
    rw [ZA] at r1
    refine ⟨.list xs,fuel+1,⟨rfl,r1.single⟩,by unfold ME;simp only [hu];exact t2⟩
   case struct fs=>
    obtain ⟨arr,rfl,_⟩:=okWide_struct hu hv
    refine ⟨.agg ms,fuel+1,⟨arr,rfl,by simpa [Value.cells] using r1⟩,by unfold ME;simp only [hu];exact ⟨ms,rfl,t2⟩⟩
   case array n e=>
    obtain ⟨h,rfl⟩:=t1
    have: ∃arr,v= .agg arr:=by
     simp only [Value.okWide,hu] at hv
     obtain ⟨arr,rfl,_⟩:=hv
     exact ⟨arr,rfl⟩
    obtain ⟨arr,rfl⟩:=this
    refine ⟨.h h,fuel+1,?_,by unfold ME;simp only [hu];exact t2⟩
    have hr:=r1.single
    simp only [Value.cells] at hr
    generalize si:arr.toList=vs at hr
    cases hr
    show Value.agg arr= .agg _
    rw [←si]
end
end Dn
/-
  A law of plain data, out of its function's contract. Conditions: none.
-/
set_option linter.unusedSimpArgs false
set_option linter.unusedVariables false
namespace Dn
open Go Go.WideShapes Go.ChangeShapes Go.RowKit
section
variable {H:Type} {enc:TypeId×Value→H} {P:Program} {W W':World} {c:Ctx}
theorem rf (hl:laidOutB P=true) (hb:Below W.heap.size W W'): ∀{ts:List TypeId} {vs:List Value} {ds:List (DataW H)} {ps:List MemPlace},(∀t∈ts,P.readableRec t=true∧t<P.types.size)→
 DataW.TrodAll enc P W 0 (fun _=>true) true ts vs ds ps→(∀x∈ps,x.block<W.heap.size)→DataW.TrodAll enc P W' 0 (fun b=>decide (b<W.heap.size)) true ts vs ds ps
 |[],[],[],_,_,h,_=>h
 |t::ts,v::vs,d::ds,_,ht,⟨p,q,h1,h2,e⟩,hs=>
  ⟨p,q,Below.trod hl (ht t (by simp)).1 (ht t (by simp)).2 h1 hb (fun x hx=>hs x (by rw [e];exact List.mem_append_left _ hx)),
   rf hl hb (fun u hu=>ht u (by simp [hu])) h2 (fun x hx=>hs x (by rw [e];exact List.mem_append_right _ hx)),e⟩
def sQ (P:Program):List TypeId→List MV→Prop
 |[],ms=>ms=[]
 |t::ts,ms=> ∃m r,ms=m::r∧(∃n,ME P (MT P n) t m)∧sQ P ts r
theorem zV {base:Nat} {sp:Nat→Bool} {held:Bool} {key:Nat→Nat} {r:Reach} {b0:Nat}: ∀{ts:List TypeId} {vs:List Value} {ds:List (DataW H)} {ps:List MemPlace},(∀t∈ts,∃D,OD P D t=true)→
 (∀(j:Nat) t v,ts[j]? =some t→vs[j]? =some v→Value.okWide P W r b0 t v)→DataW.TrodAll enc P W base sp held ts vs ds ps→ ∃ms,bB key (ue W) vs ms∧sQ P ts ms∧ds.length=ts.length
 |[],[],[],_,_,_,_=>⟨[],rfl,rfl,rfl⟩
 |t::ts,v::vs,d::ds,_,ht,hv,⟨p,q,h1,h2,e⟩=>by
  obtain ⟨D,hD⟩:=ht t (by simp)
  obtain ⟨m,n,r1,t1⟩:=KJ (key:=key) hD (hv 0 t v rfl rfl) h1
  obtain ⟨ms,r2,t2,hl⟩:=zV (key:=key) (fun u hu=>ht u (by simp [hu])) (fun j u x hu hx=>hv (j+1) u x (by simpa using hu) (by simpa using hx)) h2
  exact ⟨m::ms,⟨v,vs,rfl,r1,r2⟩,⟨m,ms,rfl,⟨n,t1⟩,t2⟩,by simp [hl]⟩
theorem HO {fn:Func} {f:FuncId} {s:ChangeSpec} {args:Array Value} {ds gs:List (DataW H)} {before:List MemPlace} {tb:TypeId} {base:Nat} (hf:P.funcs[f]? =some fn) (oT:fn.body.isSome=true) (xc:(fn.name== "runtime.NumGoroutine")=false)
 (hl:laidOutB P=true) (SQ: ∀t∈fn.params.toList,(∃D,OD P D t=true)∧P.readableRec t=true∧t<P.types.size) (o4:fn.resultTypes= #[tb]) (Ko:P.underlying tb=some .bool) (hv:s.vars=[])
 (Uj: ∀ds:List (DataW H),ds.length=fn.params.toList.length→s.fn H ds={results:=[.lit (.bool true)],args:=ds})
 (vv: ∀(j:Nat) t v,fn.params[j]? =some t→args[j]? =some v→Value.okWide P W .any base t v)
 (hW:DataW.Whole enc P fn.params.toList s.vars false W args.toList ds gs before) (hg:c.df (c.key f)=false)
 (oP: ∀ms,sQ P fn.params.toList ms→kN P c f ms (.b true)):
 Calls P f args W fun e W'=> ∃v,e= .returned v∧s.post enc P fn false true false false W args v W':=by
 have XN:=hW
 obtain ⟨p,q,hA,hV,rfl,Ri,Re⟩:=hW
 rw [hv] at hV
 obtain ⟨rfl,rfl⟩:=trodVars_none hV
 have dE: ∀x∈p,x.block<W.heap.size:=fun x hx=>by simpa using XN.lt x (by simp [hx])
 obtain ⟨ms,r1,t1,Up⟩:=zV (key:=c.key) (fun t ht=>(SQ t ht).1) (fun j t v h1 h2=>vv j t v (by simpa using h1) (by simpa using h2)) hA
 have hc:=oP ms t1 (ue W) W (fun b=>W.heap.size≤b) args.toList (fun b hb=>hb) (by simp only [dS,hg,Bool.false_eq_true,if_false];exact r1) (KG W)
 have bx:(callFunc f args).run P W= .ok (.enter f args) W:=by
  have Ey: ¬fn.name= "runtime.NumGoroutine" :=by simpa using xc
  cases hb:fn.body with
  |none=>rw [hb] at oT;cases oT
  |some b=>simp [callFunc,hf,Ey,hb]
 unfold fh at hc
 rw [Array.toArray_toList,bx] at hc
 refine hc.mono ?_
 rintro x W' ⟨v,rfl,φ',ht,mS,hr⟩
 have Rh:v= .bool true:=by
  obtain ⟨_,hr⟩:=hr
  generalize si:[v]=vs at hr
  cases hr;simpa using si
 subst Rh
 have KK:Below W.heap.size W W':=⟨ht.rest.1,ht.rest.2.1,ht.rest.2.2.1,ht.size,fun k hk=>ht.heap k (by omega) hk⟩
 have P2:=Uj (ds++[]) (by simpa using Up)
 refine ⟨_,rfl,ds,[],_,[],p,[],XN,?_,?_,?_,KK.frame _,fun h=>by cases h⟩
 ·rw [P2,o4]
  exact trodAll_mk1 (shut_bool Ko _)
 ·rw [P2]
  simpa using rf hl KK (fun t ht=>(SQ t ht).2) hA dE
 ·rw [P2,hv];rfl
end
theorem Gy {α:Type} {f:α→MV} {Q:α→Prop} {R:MV→Prop} {xs:List MV} (h: ∀x,R x→ ∃y,x=f y∧Q y) (hx: ∀x∈xs,R x): ∃L:List α,xs=L.map f∧ ∀y∈L,Q y:=by
 induction xs with
 |nil=>exact ⟨[],rfl,by simp⟩
 |cons x xs ih=>
  obtain ⟨y,rfl,hq⟩:=h x (hx x (by simp))
  obtain ⟨L,rfl,hL⟩:=ih fun z hz=>hx z (by simp [hz])
  exact ⟨y::L,rfl,by simp only [List.mem_cons];rintro z (rfl|hz);exact hq;exact hL z hz⟩
theorem Nc {n:Int} (h:(Lit.int .u8 n).wf=true):0≤n∧n≤255:=by
 simp only [Lit.wf,Bool.and_eq_true,decide_eq_true_eq] at h
 exact h
end Dn
/-
  A program's type table, looked through. Conditions: none.
-/
set_option linter.unusedSimpArgs false
set_option linter.unusedVariables false
set_option linter.constructorNameAsVariable false
namespace Dn
open Go
theorem KL {a b:Kd} (h:N9 a b=true):a=b:=by
 cases a<;>cases b<;>simp [N9,kB] at h<;>first|rfl|(subst h;rfl)
def fj:List Kd→Kd→Bool
 |[k],k'=>N9 k k'
 |_,_=>false
theorem cr {l:List Kd} {k:Kd} (h:fj l k=true):l=[k]:=by
 cases l with
 |nil=>simp [fj] at h
 |cons a l=>cases l with
  |nil=>simp only [fj] at h;rw [KL h]
  |cons=>simp [fj] at h
def u5:List Nat→List Nat→Bool
 |[],[]=>true
 |a::l,b::m=>Nat.beq a b&&u5 l m
 |_,_=>false
theorem xe {l m:List Nat} (h:u5 l m=true):l=m:=by
 induction l generalizing m with
 |nil=>cases m<;>simp [u5] at h;rfl
 |cons a l ih=>
  cases m with
  |nil=>simp [u5] at h
  |cons b m=>
   simp only [u5,Bool.and_eq_true] at h
   rw [Nat.eq_of_beq_eq_true h.1,ih h.2]
def n9 {α:Type}:List α→Bool
 |[]=>true
 |_=>false
theorem jr {α:Type} {l:List α} (h:n9 l=true):l=[]:=by cases l<;>simp [n9] at h;rfl
def Bq (ti:Nat→Option TI) (t:Nat):Bool:=match ti t with|some J=>n9 J.bO&&Nat.ble 1 J.size|none=>false
theorem zW {ti:Nat→Option TI} {t:Nat} (h:Bq ti t=true): ∃J,ti t=some J∧J.bO=[]∧0<J.size:=by
 unfold Bq at h
 cases hJ:ti t with
 |none=>simp [hJ] at h
 |some J=>
  simp only [hJ,Bool.and_eq_true] at h
  exact ⟨J,rfl,jr h.1,Nat.le_of_ble_eq_true h.2⟩
def xf:List Value→Nat→Bool
 |[],n=>Nat.beq n 0
 | .int .u8 k::r,n+1=>decide (k=0)&&xf r n
 |_,_=>false
theorem CS {l:List Value} {n:Nat} (h:xf l n=true):l=List.replicate n (.int .u8 0):=by
 induction l generalizing n with
 |nil=>have:=Nat.eq_of_beq_eq_true h;subst this;rfl
 |cons v l ih=>
  cases n with
  |zero=>cases v<;>simp [xf] at h
  |succ n=>
   unfold xf at h
   split at h
   ·rename_i h1;simp at h1
   ·rename_i k _ _ h1 h2
    simp only [List.cons.injEq] at h1
    obtain ⟨rfl,rfl⟩:=h1
    cases h2
    simp only [Bool.and_eq_true,decide_eq_true_eq] at h
    rw [h.1,ih h.2];rfl
   ·cases h
def ug:List ap→ap→Bool
 |[.nil],.nil=>true
 |[.p (.b false)],.p (.b false)=>true
 |[.p (.i k n)],.p (.i k' m)=>kB k k'&&decide (n=m)
 |[.p (.s [])],.p (.s [])=>true
 |_,_=>false
theorem qu {l:List ap} {x:ap} (h:ug l x=true):l=[x]:=by
 unfold ug at h
 split at h<;>first|rfl|skip
 ·simp [kB] at h;rw [h.1,h.2]
 ·cases h
def KM:List ap→Bool
 |[.hs x]=>decide (x=ez.zero)
 |_=>false
theorem KN {l:List ap} (h:KM l=true):l=[.hs ez.zero]:=by
 unfold KM at h
 split at h
 ·rw [of_decide_eq_true h]
 ·cases h
def KO (ti:Nat→Option TI) (P:Program) (I:TI) (z:Option Value):TypeDesc→Bool
 | .struct fs=>I.st&&n9 I.bO&&Nat.ble 1 I.size&&Nat.beq (vp I.lay) I.size&&u5 (fs.toList.map (·.offset)) I.Cc&&u5 (fs.toList.map (·.type)) I.G7&&
  (fs.toList.all fun f=>Bq ti f.type)&&(match z with|some (.agg cs)=>lH I.zero cs.toList&&Nat.beq cs.size I.size|_=>false)
 | .tuple ts=>u5 I.bO ts.toList&&!n9 I.bO&&n9 I.lay&&!I.st
 | .slice el=>!I.st&&n9 I.bO&&Nat.beq I.size 1&&Nat.beq I.elem el&&Bq ti el&&(match z with|some (.slice none 0 0)=>true|_=>false)&&ug I.zero .nil&&fj I.lay .l
 | .array n el=>!I.st&&n9 I.bO&&Nat.beq I.size 32&&Nat.beq n 32&&Nat.beq I.elem el&&(match P.underlying el with|some (.int .u8)=>true|_=>false)&&(match P.info? el with|some i=>Nat.beq i.size 1|none=>false)&&
  fj I.lay .h&&KM I.zero&&(match z with|some (.agg cs)=>xf cs.toList 32|_=>false)
 | .bool=>!I.st&&n9 I.bO&&Nat.beq I.size 1&&fj I.lay .b&&ug I.zero (.p (.b false))&&(match z with|some (.bool false)=>true|_=>false)
 | .int k=>!I.st&&n9 I.bO&&Nat.beq I.size 1&&fj I.lay (.i k)&&ug I.zero (.p (.i k 0))&&(match z with|some (.int k' n)=>kB k' k&&decide (n=0)|_=>false)
 | .string=>!I.st&&n9 I.bO&&Nat.beq I.size 1&&fj I.lay .s&&ug I.zero (.p (.s []))&&(match z with|some (.string b)=>n9 b.data.toList|_=>false)
 |_=>!I.st&&n9 I.bO&&Nat.beq I.size 1&&fj I.lay .raw&&(match z with|some v=>v.oneCell'&&lH I.zero [v]|none=>false)
theorem KP {ti:Nat→Option TI} {P:Program} {I:TI} {z:Option Value} {d:TypeDesc} (h:KO ti P I z d=true):kI ti P I z d:=by
 cases d<;>simp only [KO,Bool.and_eq_true,Bool.not_eq_true'] at h<;>simp only [kI]
 case struct fs=>
  obtain ⟨⟨⟨⟨⟨⟨⟨h1,h2⟩,h3⟩,h4⟩,h5⟩,h6⟩,h7⟩,h8⟩:=h
  refine ⟨h1,jr h2,⟨Nat.le_of_ble_eq_true h3,Nat.eq_of_beq_eq_true h4⟩,xe h5,xe h6,fun k f hk=> ?_,?_⟩
  ·exact zW (List.all_eq_true.1 h7 f (by
    have:fs.toList[k]? =some f:=by simpa using hk
    exact List.mem_of_getElem? this))
  ·split at h8
   ·rename_i cs
    simp only [Bool.and_eq_true] at h8
    exact ⟨cs,rfl,h8.1,Nat.eq_of_beq_eq_true h8.2⟩
   ·cases h8
 case tuple ts=>
  obtain ⟨⟨⟨h1,h2⟩,h3⟩,h4⟩:=h
  exact ⟨xe h1,fun he=>(by rw [he] at h2;simp [n9] at h2),jr h3,h4⟩
 case slice el=>
  obtain ⟨⟨⟨⟨⟨⟨⟨h1,h2⟩,h3⟩,h4⟩,h5⟩,h6⟩,h7⟩,h8⟩:=h
  refine ⟨h1,jr h2,Nat.eq_of_beq_eq_true h3,Nat.eq_of_beq_eq_true h4,zW h5,?_,qu h7,.l,cr h8,rfl⟩
  split at h6
  ·rfl
  ·cases h6
 case array n el=>
  obtain ⟨⟨⟨⟨⟨⟨⟨⟨⟨h1,h2⟩,h3⟩,h4⟩,h5⟩,h6⟩,h7⟩,h8⟩,h9⟩,P3⟩:=h
  refine ⟨h1,jr h2,Nat.eq_of_beq_eq_true h3,Nat.eq_of_beq_eq_true h4,Nat.eq_of_beq_eq_true h5,?_,cr h8,KN h9,?_⟩
  ·split at h6
   ·rename_i hu
    split at h7
    ·rename_i i hi;exact ⟨i,hu,hi,Nat.eq_of_beq_eq_true h7⟩
    ·cases h7
   ·cases h6
  ·split at P3
   ·rename_i cs
    have:=CS P3
    congr 1
    congr 1
    apply Array.toList_inj.1
    rw [this];rfl
   ·cases P3
 case bool=>
  obtain ⟨⟨⟨⟨⟨h1,h2⟩,h3⟩,h4⟩,h5⟩,h6⟩:=h
  refine ⟨h1,jr h2,Nat.eq_of_beq_eq_true h3,cr h4,qu h5,?_⟩
  split at h6
  ·rfl
  ·cases h6
 case int k=>
  obtain ⟨⟨⟨⟨⟨h1,h2⟩,h3⟩,h4⟩,h5⟩,h6⟩:=h
  refine ⟨h1,jr h2,Nat.eq_of_beq_eq_true h3,cr h4,qu h5,?_⟩
  split at h6
  ·simp only [kB,Bool.and_eq_true,decide_eq_true_eq] at h6
   rw [h6.1,h6.2]
  ·cases h6
 case string=>
  obtain ⟨⟨⟨⟨⟨h1,h2⟩,h3⟩,h4⟩,h5⟩,h6⟩:=h
  refine ⟨h1,jr h2,Nat.eq_of_beq_eq_true h3,cr h4,qu h5,?_⟩
  split at h6
  ·rename_i b;exact ⟨b,rfl,jr h6⟩
  ·cases h6
 all_goals
  obtain ⟨⟨⟨⟨h1,h2⟩,h3⟩,h4⟩,h5⟩:=h
  refine ⟨h1,jr h2,Nat.eq_of_beq_eq_true h3,cr h4,?_⟩
  split at h5
  ·rename_i v
   simp only [Bool.and_eq_true] at h5
   exact ⟨v,rfl,h5.1,h5.2⟩
  ·cases h5
def P4 (ti:Nat→Option TI) (P:Program) (t:Nat) (I:TI):Bool:=
 match P.underlying t,P.info? t with
 |some d,some i=>(!n9 I.bO||(Nat.beq i.size I.size&&Nat.beq i.bytes I.bytes))&&KO ti P I i.zero d
 |_,_=>false
theorem Nd {ti:Nat→Option TI} {P:Program} {t:Nat} {I:TI} (h:P4 ti P t I=true):iP ti P t I:=by
 unfold P4 at h
 split at h
 ·rename_i d i hu hi
  simp only [Bool.and_eq_true,Bool.or_eq_true,Bool.not_eq_true'] at h
  refine ⟨d,i,hu,hi,fun hc=> ?_,KP h.2⟩
  rcases h.1 with h1|h1
  ·rw [hc] at h1;simp [n9] at h1
  ·exact ⟨Nat.eq_of_beq_eq_true h1.1,Nat.eq_of_beq_eq_true h1.2⟩
 ·cases h
def pE:List (Nat×TI)→Nat→Option TI
 |[],_=>none
 |(k,s)::r,t=>bif Nat.beq k t then some s else pE r t
def CT (P:Program) (Mn:List (Nat×TI)):Bool:=Mn.all fun p=>P4 (pE Mn) P p.1 p.2
theorem zX {l:List (Nat×TI)} {t:Nat} {I:TI} (h:pE l t=some I):(t,I)∈l:=by
 induction l with
 |nil=>simp [pE] at h
 |cons p l ih=>
  obtain ⟨k,s⟩:=p
  simp only [pE,cm] at h
  by_cases hk:k=t
  ·subst hk;simp at h;subst h;simp
  ·simp only [hk,decide_false,cond_false] at h
   exact List.mem_cons_of_mem _ (ih h)
theorem Br {P:Program} {Mn:List (Nat×TI)} (h:CT P Mn=true):fc P (pE Mn):=fun t I hI=>Nd (List.all_eq_true.1 h (t,I) (zX hI))
end Dn
/-
  Comparing values of plain types. Conditions: none.
-/
set_option linter.unusedSimpArgs false
set_option linter.unusedVariables false
set_option linter.constructorNameAsVariable false
namespace Dn
open Go
def Nf:List Kd→List Kd
 |[]=>[]
 | .h::r=>List.replicate 32 (.i .u8)++Nf r
 |k::r=>k::Nf r
def Bs:Kd→Value→Bool
 | .b,.bool _=>true
 | .i k,.int k' _=>decide (k'=k)
 | .s,.string _=>true
 |_,_=>false
def dT:List Kd→List Value→Prop
 |[],vs=>vs=[]
 |k::ks,vs=> ∃v r,vs=v::r∧Bs k v=true∧dT ks r
def KQ:Value→Value→Bool
 | .bool a,.bool b=>decide (a=b)
 | .int _ a,.int _ b=>decide (a=b)
 | .string a,.string b=>decide (a.data.toList=b.data.toList)
 |_,_=>false
def eQ:List Value→List Value→Bool
 |[],[]=>true
 |x::xs,y::ys=>KQ x y&&eQ xs ys
 |_,_=>false
theorem lW {xs ys us vs:List Value} (h:xs.length=ys.length):eQ (xs++us) (ys++vs)=(eQ xs ys&&eQ us vs):=by
 induction xs generalizing ys with
 |nil=>cases ys with|nil=>simp [eQ]|cons=>simp at h
 |cons x xs ih=>cases ys with|nil=>simp at h|cons y ys=>simp only [List.cons_append,eQ,ih (by simpa using h),Bool.and_assoc]
theorem dT.length {ks:List Kd}: ∀{vs:List Value},dT ks vs→vs.length=ks.length:=by
 induction ks with
 |nil=>intro vs h;cases h;rfl
 |cons k ks ih=>intro vs h;obtain ⟨v,r,rfl,_,h2⟩:=h;simp [ih h2]
theorem dT.append {ks js:List Kd}: ∀{vs us:List Value},dT ks vs→dT js us→dT (ks++js) (vs++us):=by
 induction ks with
 |nil=>intro vs us h h';cases h;simpa using h'
 |cons k ks ih=>intro vs us h h';obtain ⟨v,r,rfl,h1,h2⟩:=h;exact ⟨v,r++us,rfl,h1,ih h2 h'⟩
theorem dT.split {ks js:List Kd}: ∀{vs:List Value},dT (ks++js) vs→dT ks (vs.take ks.length)∧dT js (vs.drop ks.length):=by
 induction ks with
 |nil=>intro vs h;exact ⟨by simp [dT],by simpa using h⟩
 |cons k ks ih=>
  intro vs h
  obtain ⟨v,r,rfl,h1,h2⟩:=h
  obtain ⟨h3,h4⟩:=ih h2
  exact ⟨⟨v,_,rfl,h1,h3⟩,by simpa using h4⟩
theorem xg (x:ez):dT (List.replicate 32 (.i .u8)) (aV x):=by
 have: ∀(l:List UInt8),dT (List.replicate l.length (.i .u8)) (l.map fun b=>Value.int .u8 (b.toNat:Int)):=by
  intro l
  induction l with
  |nil=>rfl
  |cons b l ih=>exact ⟨_,_,rfl,by simp [Bs],ih⟩
 have h:=this x.l
 rw [x.h] at h
 exact h
theorem zY (x y:ez):eQ (aV x) (aV y)=decide (x=y):=by
 have: ∀(l m:List UInt8),l.length=m.length→eQ (l.map fun b=>Value.int .u8 (b.toNat:Int)) (m.map fun b=>Value.int .u8 (b.toNat:Int))=decide (l=m):=by
  intro l
  induction l with
  |nil=>intro m h;cases m with|nil=>rfl|cons=>simp at h
  |cons b l ih=>
   intro m h
   cases m with
   |nil=>simp at h
   |cons b' m=>
    simp only [List.map_cons,eQ,KQ,ih m (by simpa using h),List.cons.injEq]
    have:((b.toNat:Int)=(b'.toNat:Int))↔b=b':=by
     constructor
     ·intro he;apply UInt8.toNat_inj.1;omega
     ·intro he;rw [he]
    simp [this]
 rw [aV,aV,this x.l y.l (by rw [x.h,y.h])]
 by_cases h:x=y
 ·subst h;simp
 ·have:x.l≠y.l:=fun he=>h (ez.ext' he)
  simp [h,this]
section
variable {e:Env}
theorem zZ {lay:List Kd}: ∀{ls:List ap} {vs:List Value},al e vs ls→cJ lay ls=true→dT (Nf lay) vs:=by
 induction lay with
 |nil=>
  intro ls vs h hf
  cases ls with
  |nil=>cases h;rfl
  |cons=>simp [cJ] at hf
 |cons k lay ih=>
  intro ls vs h hf
  cases ls with
  |nil=>simp [cJ] at hf
  |cons l ls=>
   simp only [cJ] at hf
   cases h1:gp k l with
   |false=>simp [h1] at hf
   |true=>
    simp only [h1,cond_true] at hf
    obtain ⟨v,u,rfl,g1,g2⟩:=h
    have hr:=ih g2 hf
    have one: ∀m:MV,∀kd:Kd,l= .p m→(∀w:List Value,fK e.key e.φ w m→ ∃x,w=[x]∧Bs kd x=true)→dT (kd::Nf lay) (v++u):=by
     intro m kd hl hm
     subst hl
     obtain ⟨x,rfl,hx⟩:=hm v g1.2
     exact ⟨x,u,rfl,hx,hr⟩
    cases k<;>cases l<;>simp only [gp] at h1<;>try (cases h1;done)
    ·rename_i m
     cases m<;>simp only [gp] at h1<;>try (cases h1;done)
     exact one _ _ rfl (fun w hw=>by cases hw;exact ⟨_,rfl,rfl⟩)
    ·rename_i k m
     cases m<;>simp only [gp] at h1<;>try (cases h1;done)
     exact one _ _ rfl (fun w hw=>by cases hw;exact ⟨_,rfl,h1⟩)
    ·rename_i m
     cases m<;>simp only [gp] at h1<;>try (cases h1;done)
     exact one _ _ rfl (fun w hw=>by cases hw;exact ⟨_,rfl,rfl⟩)
    ·rename_i x
     have g1:v=aV x:=g1
     subst g1
     exact (xg x).append hr
theorem yQ {l l':ap} {v v':List Value} {b:Bool} (h:aB e v l) (h':aB e v' l') (hb:tM l l'=some b):eQ v v'=b∧v.length=v'.length:=by
 unfold tM at hb
 split at hb
 ·obtain ⟨_,h⟩:=h;obtain ⟨_,h'⟩:=h'
  cases h;cases h'
  simp at hb;exact ⟨by simp [eQ,KQ,←hb],rfl⟩
 ·obtain ⟨_,h⟩:=h;obtain ⟨_,h'⟩:=h'
  cases h;cases h'
  rename_i k x k' y _ _
  cases hk:decide (k=k') with
  |false=>simp [hk] at hb
  |true=>simp [hk] at hb;exact ⟨by simp [eQ,KQ,←hb],rfl⟩
 ·obtain ⟨_,h⟩:=h;obtain ⟨_,h'⟩:=h'
  cases h;cases h'
  simp at hb;exact ⟨by simp [eQ,KQ,←hb],rfl⟩
 ·rename_i x y
  have h:v=aV x:=h
  have h':v'=aV y:=h'
  subst h;subst h'
  simp at hb
  exact ⟨by rw [zY,←hb],by rw [bN,bN]⟩
 ·cases hb
theorem KR {ls:List ap}: ∀{oS:List ap} {vs DY:List Value} {b:Bool},al e vs ls→al e DY oS→dP ls oS=some b→eQ vs DY=b:=by
 induction ls with
 |nil=>
  intro oS vs DY b h h' hb
  cases oS with
  |nil=>cases h;cases h';simp [dP] at hb;subst hb;rfl
  |cons l' oS=>simp [dP] at hb
 |cons l ls ih=>
  intro oS vs DY b h h' hb
  cases oS with
  |nil=>simp [dP] at hb
  |cons l' oS=>
   obtain ⟨v,u,rfl,h1,h2⟩:=h
   obtain ⟨v',u',rfl,yE,EE⟩:=h'
   have two: ∀x y,tM l l'=some x→dP ls oS=some y→b=(x&&y)→eQ (v++u) (v'++u')=b:=by
    intro x y hx hy Gn
    obtain ⟨g1,g2⟩:=yQ h1 yE hx
    rw [lW g2,g1,ih h2 EE hy,Gn]
   cases ls with
   |nil=>
    cases oS with
    |nil=>
     have hb:tM l l'=some b:=hb
     exact two b true hb rfl (by simp)
    |cons p q=>
     simp only [dP] at hb
     split at hb
     ·rename_i x y hx hy;exact two x y hx hy (by simpa using hb.symm)
     ·cases hb
   |cons p q=>
    simp only [dP] at hb
    split at hb
    ·rename_i x y hx hy;exact two x y hx hy (by simpa using hb.symm)
    ·cases hb
end
def mB (F:TypeId→Option (List Kd)) (P:Program):List Field→Nat→Nat→Option (List Kd)
 |[],o,n=>bif Nat.beq o n then some [] else none
 |f::fs,o,n=>match F f.type with
  |some ks=>bif Nat.beq f.offset o&&Nat.beq ks.length (P.cellsOf f.type)&&!(f.name== "_") then (match mB F P fs (o+ks.length) n with|some r=>some (ks++r)|none=>none) else none
  |none=>none
def CU:Nat→List Kd→List Kd
 |0,_=>[]
 |n+1,ks=>ks++CU n ks
def gj (P:Program):Nat→TypeId→Option (List Kd)
 |0,_=>none
 |d+1,t=>match P.underlying t with
  |some .bool=>some [.b]
  |some (.int k)=>some [.i k]
  |some .string=>some [.s]
  |some (.array n e)=>match gj P d e with
   |some ks=>bif Nat.beq ks.length (P.cellsOf e)&&(match P.info? e with|some _=>true|none=>false) then some (CU n ks) else none
   |none=>none
  |some (.struct fs)=>bif P.stoodInHeld t then none else mB (gj P d) P fs.toList 0 (P.cellsOf t)
  |_=>none
def yR:TypeDesc→Bool
 | .struct _=>true
 | .array _ _=>true
 |_=>false
theorem xh {F:TypeId→Option (List Kd)} {P:Program}: ∀(fs:List Field) (o n:Nat) (ks:List Kd),mB F P fs o n=some ks→o+ks.length=n:=by
 intro fs
 induction fs with
 |nil=>
  intro o n ks hk
  simp only [mB] at hk
  cases hb:Nat.beq o n with
  |false=>simp [hb] at hk
  |true=>simp [hb] at hk;subst hk;simpa using Nat.eq_of_beq_eq_true hb
 |cons f fs ZB=>
  intro o n ks hk
  simp only [mB] at hk
  cases hf:F f.type with
  |none=>simp [hf] at hk
  |some js=>
   simp only [hf] at hk
   cases hc:Nat.beq f.offset o&&Nat.beq js.length (P.cellsOf f.type)&&!(f.name== "_") with
   |false=>simp [hc] at hk
   |true=>
    simp only [hc,cond_true] at hk
    cases hr:mB F P fs (o+js.length) n with
    |none=>simp [hr] at hk
    |some rs=>
     simp only [hr,Option.some.injEq] at hk
     subst hk
     have:=ZB _ _ _ hr
     simp only [List.length_append];omega
def lC (P:Program) (t:TypeId) (v:Value) (cs:List Value):Prop:=
 match P.underlying t with
 |some (.struct _)|some (.array _ _)=>v= .agg cs.toArray
 |_=>cs=[v]
theorem CV (n:Nat) (ks:List Kd):(CU n ks).length=n *ks.length:=by
 induction n with
 |zero=>simp [CU]
 |succ n ih=>simp only [CU,List.length_append,ih,Nat.succ_mul];omega
section
variable {P:Program} {w:World}
theorem qv {t:TypeId} {xs:Array Value} {off:Nat} {n:Nat} {d:TypeDesc} (hu:P.underlying t=some d) (hn:P.cellsOf t=n) (eN:yR d=false→n=1) (hl:off+n≤xs.size):
 ∃v,(Go.part t xs off).run P w= .ok v w∧lC P t v ((xs.toList.drop off).take n):=by
 obtain ⟨i,hi⟩:=info_of_underlying hu
 have kK:i.size=n:=by rw [←hn];simp [Program.cellsOf,hi]
 cases hd:yR d with
 |true=>
  refine ⟨.agg (xs.extract off (off+n)),?_,?_⟩
  ·cases d<;>simp [yR] at hd<;>simp [Go.part,isAgg,run_underlying hu,Go.sizeOf,typeInfo,hi,kK]
  ·have he:(xs.extract off (off+n))=((xs.toList.drop off).take n).toArray:=by
    apply Array.toList_inj.1
    rw [Array.toList_extract];simp [List.extract]
   unfold lC
   cases d<;>simp [yR] at hd<;>simp only [hu]<;>rw [he]
 |false=>
  have B7:=eN hd
  subst B7
  have dE:off<xs.size:=by omega
  refine ⟨xs[off],?_,?_⟩
  ·cases d<;>simp [yR] at hd<;>simp [Go.part,isAgg,run_underlying hu,dE]
  ·have he:(xs.toList.drop off).take 1=[xs[off]]:=by
    rw [List.take_one,List.head?_drop];simp [dE]
   unfold lC
   cases d<;>simp [yR] at hd<;>simp only [hu]<;>exact he
theorem HP {F:TypeId→Option (List Kd)} {dd:Nat} {xs ys:Array Value}: ∀(fs:List Field) (o n:Nat) (ks:List Kd),mB F P fs o n=some ks→xs.size=n→ys.size=n→dT ks (xs.toList.drop o)→dT ks (ys.toList.drop o)→
 (∀f∈fs,∀js,F f.type=some js→(∃d,P.underlying f.type=some d∧(yR d=false→js.length=1))∧
  ∀(x y:Value) (us vs:List Value),lC P f.type x us→lC P f.type y vs→dT js us→dT js vs→(Op.equalIn dd f.type x y).run P w= .ok (eQ us vs) w)→
 (Op.eqFields dd xs ys fs).run P w= .ok (eQ (xs.toList.drop o) (ys.toList.drop o)) w:=by
 intro fs
 induction fs with
 |nil=>
  intro o n ks hk hx hy _ _ _
  simp only [mB] at hk
  cases hb:Nat.beq o n with
  |false=>simp [hb] at hk
  |true=>
   have hb:=Nat.eq_of_beq_eq_true hb
   have h1:xs.toList.drop o=[]:=List.drop_eq_nil_of_le (by simp [hx,hb])
   have h2:ys.toList.drop o=[]:=List.drop_eq_nil_of_le (by simp [hy,hb])
   rw [h1,h2]
   simp [Op.eqFields,eQ]
 |cons f fs ih=>
  intro o n ks hk hx hy fx fy hF
  simp only [mB] at hk
  cases hf:F f.type with
  |none=>simp [hf] at hk
  |some js=>
   simp only [hf] at hk
   cases hc:Nat.beq f.offset o&&Nat.beq js.length (P.cellsOf f.type)&&!(f.name== "_") with
   |false=>simp [hc] at hk
   |true=>
    simp only [hc,cond_true] at hk
    simp only [Bool.and_eq_true,Bool.not_eq_true'] at hc
    obtain ⟨⟨h1,h2⟩,h3⟩:=hc
    have h1:=Nat.eq_of_beq_eq_true h1
    have h2:=Nat.eq_of_beq_eq_true h2
    have h3:f.name≠ "_" :=by intro he;rw [he] at h3;simp at h3
    cases hr:mB F P fs (o+js.length) n with
    |none=>simp [hr] at hk
    |some rs=>
     simp only [hr,Option.some.injEq] at hk
     subst hk
     obtain ⟨SR,SS⟩:=fx.split
     obtain ⟨SU,SV⟩:=fy.split
     rw [List.drop_drop] at SS SV
     have lx:=fx.length
     have ly:=fy.length
     simp only [List.length_drop,List.length_append,Array.length_toList] at lx ly
     obtain ⟨⟨d,hu,eN⟩,dq⟩:=hF f (by simp) js hf
     by_cases hz:o+js.length≤xs.size∧o+js.length≤ys.size
     ·obtain ⟨x,px,wx⟩:=qv (w:=w) (xs:=xs) (off:=f.offset) hu h2.symm eN (by rw [h1];exact hz.1)
      obtain ⟨y,py,wy⟩:=qv (w:=w) (xs:=ys) (off:=f.offset) hu h2.symm eN (by rw [h1];exact hz.2)
      rw [h1] at wx wy
      have he:=dq x y _ _ wx wy SR SU
      have z1:=ih (o+js.length) n rs hr hx hy SS SV (fun g hg=>hF g (by simp [hg]))
      simp only [Op.eqFields,h3,ne_eq,not_false_eq_true,if_true,Sem.run_bind,px,py,he,Result.andThen_ok]
      have wU:eQ (xs.toList.drop o) (ys.toList.drop o)=(eQ ((xs.toList.drop o).take js.length) ((ys.toList.drop o).take js.length)&&eQ (xs.toList.drop (o+js.length)) (ys.toList.drop (o+js.length))):=by
       rw [←List.drop_drop,←List.drop_drop,←lW (by rw [SR.length,SU.length]),List.take_append_drop,List.take_append_drop]
      rw [wU]
      cases eQ ((xs.toList.drop o).take js.length) ((ys.toList.drop o).take js.length)
      ·simp
      ·simpa using z1
     ·exfalso
      have:=xh _ _ _ _ hr
      omega
theorem KS {e:TypeId} {dd:Nat} {xs ys:Array Value} {js:List Kd} (IM:js.length=P.cellsOf e) (hd: ∃d,P.underlying e=some d∧(yR d=false→js.length=1))
 (dq: ∀(x y:Value) (us vs:List Value),lC P e x us→lC P e y vs→dT js us→dT js vs→(Op.equalIn dd e x y).run P w= .ok (eQ us vs) w):
 ∀(m i:Nat),xs.size=(i+m) *js.length→ys.size=(i+m) *js.length→dT (CU m js) (xs.toList.drop (i *js.length))→dT (CU m js) (ys.toList.drop (i *js.length))→
 (Op.eqItems dd e (P.cellsOf e) xs ys (List.range' i m)).run P w= .ok (eQ (xs.toList.drop (i *js.length)) (ys.toList.drop (i *js.length))) w:=by
 intro m
 induction m with
 |zero=>
  intro i hx hy _ _
  have h1:xs.toList.drop (i *js.length)=[]:=List.drop_eq_nil_of_le (by simp [hx])
  have h2:ys.toList.drop (i *js.length)=[]:=List.drop_eq_nil_of_le (by simp [hy])
  rw [h1,h2]
  simp [Op.eqItems,eQ]
 |succ m ih=>
  intro i hx hy fx fy
  simp only [CU] at fx fy
  obtain ⟨SR,SS⟩:=fx.split
  obtain ⟨SU,SV⟩:=fy.split
  have hmul:i *js.length+js.length=(i+1) *js.length:=by rw [Nat.succ_mul]
  rw [List.drop_drop,hmul] at SS SV
  obtain ⟨d,hu,eN⟩:=hd
  have hle:(i+1) *js.length≤(i+(m+1)) *js.length:=Nat.mul_le_mul_right _ (by omega)
  obtain ⟨x,px,wx⟩:=qv (w:=w) (xs:=xs) (off:=i *js.length) hu IM.symm eN (by omega)
  obtain ⟨y,py,wy⟩:=qv (w:=w) (xs:=ys) (off:=i *js.length) hu IM.symm eN (by omega)
  have he:=dq x y _ _ wx wy SR SU
  have z1:=ih (i+1) (by rw [hx];congr 1;omega) (by rw [hy];congr 1;omega) SS SV
  rw [List.range'_succ]
  simp only [Op.eqItems,Sem.run_bind,←IM,px,py,he,Result.andThen_ok]
  have wU:eQ (xs.toList.drop (i *js.length)) (ys.toList.drop (i *js.length))=(eQ ((xs.toList.drop (i *js.length)).take js.length) ((ys.toList.drop (i *js.length)).take js.length)&&eQ (xs.toList.drop ((i+1) *js.length)) (ys.toList.drop ((i+1) *js.length))):=by
   rw [←hmul,←List.drop_drop,←List.drop_drop,←lW (by rw [SR.length,SU.length]),List.take_append_drop,List.take_append_drop]
  rw [wU]
  cases eQ ((xs.toList.drop (i *js.length)).take js.length) ((ys.toList.drop (i *js.length)).take js.length)
  ·simp
  ·rw [←IM] at z1;simpa using z1
theorem z6: ∀(d:Nat) (t:TypeId) (ks:List Kd),gj P d t=some ks→ ∃k,P.underlying t=some k∧(yR k=false→ks.length=1):=by
 intro d t ks h
 cases d with
 |zero=>simp [gj] at h
 |succ d=>
  simp only [gj] at h
  cases hu:P.underlying t with
  |none=>simp [hu] at h
  |some k=>
   refine ⟨k,rfl,fun ha=> ?_⟩
   cases k<;>simp only [hu] at h<;>first
    |(simp only [Option.some.injEq] at h;subst h;rfl)
    |(cases h;done)
    |(simp [yR] at ha;done)
theorem u6: ∀(d:Nat) (t:TypeId) (ks:List Kd),gj P d t=some ks→ ∀(m:Nat) (x y:Value) (us vs:List Value),lC P t x us→lC P t y vs→dT ks us→dT ks vs→
 (Op.equalIn (m+d) t x y).run P w= .ok (eQ us vs) w:=by
 intro d
 induction d with
 |zero=>intro t ks h;simp [gj] at h
 |succ d ih=>
  intro t ks h m x y us vs hx hy fx fy
  simp only [gj] at h
  have ZC:m+(d+1)=(m+d)+1:=rfl
  rw [ZC]
  cases hu:P.underlying t with
  |none=>simp [hu] at h
  |some k=>
   cases k<;>simp only [hu] at h<;>try (cases h;done)
   case bool=>
    simp only [Option.some.injEq] at h;subst h
    simp only [lC,hu] at hx hy
    subst hx;subst hy
    obtain ⟨v,r,h1,h2,h3⟩:=fx
    obtain ⟨v',r',yE,EE,Uc⟩:=fy
    simp at h1 yE
    obtain ⟨rfl,_⟩:=h1
    obtain ⟨rfl,_⟩:=yE
    cases x<;>simp [Bs] at h2
    cases y<;>simp [Bs] at EE
    rename_i a b
    rw [run_equalIn_bool' w _ t a b hu]
    simp [eQ,KQ]
    cases a<;>cases b<;>rfl
   case int k=>
    simp only [Option.some.injEq] at h;subst h
    simp only [lC,hu] at hx hy
    subst hx;subst hy
    obtain ⟨v,r,h1,h2,h3⟩:=fx
    obtain ⟨v',r',yE,EE,Uc⟩:=fy
    simp at h1 yE
    obtain ⟨rfl,_⟩:=h1
    obtain ⟨rfl,_⟩:=yE
    cases x<;>simp [Bs] at h2
    cases y<;>simp [Bs] at EE
    subst h2;subst EE
    rw [run_equalIn_int w _ t _ _ _ _ hu]
    simp only [eQ,KQ,Bool.and_true]
    congr 1
   case string=>
    simp only [Option.some.injEq] at h;subst h
    simp only [lC,hu] at hx hy
    subst hx;subst hy
    obtain ⟨v,r,h1,h2,h3⟩:=fx
    obtain ⟨v',r',yE,EE,Uc⟩:=fy
    simp at h1 yE
    obtain ⟨rfl,_⟩:=h1
    obtain ⟨rfl,_⟩:=yE
    cases x<;>simp [Bs] at h2
    cases y<;>simp [Bs] at EE
    rw [run_equalIn_string w _ t _ _ hu]
    simp only [eQ,KQ,Bool.and_true,toList_data]
    congr 1
    exact Bool.beq_eq_decide_eq _ _
   case array n e=>
    cases Uq:gj P d e with
    |none=>simp [Uq] at h
    |some js=>
     simp only [Uq] at h
     cases hc:Nat.beq js.length (P.cellsOf e)&&(match P.info? e with|some _=>true|none=>false) with
     |false=>simp [hc] at h
     |true=>
      simp only [hc,cond_true,Option.some.injEq] at h
      subst h
      simp only [Bool.and_eq_true] at hc
      have IM:=Nat.eq_of_beq_eq_true hc.1
      obtain ⟨i,hi⟩: ∃i,P.info? e=some i:=by
       cases hi:P.info? e with
       |none=>rw [hi] at hc;simp at hc
       |some i=>exact ⟨i,rfl⟩
      simp only [lC,hu] at hx hy
      subst hx;subst hy
      rw [run_equalIn_array w (m+d) us.toArray vs.toArray hu hi,List.range_eq_range']
      have l1:=fx.length
      have l2:=fy.length
      rw [CV] at l1 l2
      have:=KS (w:=w) (xs:=us.toArray) (ys:=vs.toArray) (js:=js) (dd:=m+d) IM (z6 d e js Uq) (fun x y us vs a b c d'=>ih e js Uq m x y us vs a b c d') n 0 (by simpa using l1) (by simpa using l2) (by simpa using fx) (by simpa using fy)
      simpa using this
   case struct fs=>
    cases cY:P.stoodInHeld t with
    |true=>simp [cY] at h
    |false=>
     simp only [cY,cond_false] at h
     simp only [lC,hu] at hx hy
     subst hx;subst hy
     have Ku:P.fieldsOf t=fs:=by simp [Program.fieldsOf,hu]
     rw [run_equalIn_struct w (m+d) t us.toArray vs.toArray (by rw [Ku];exact hu) cY,Ku]
     have hl:=xh _ _ _ _ h
     have:=HP (w:=w) (dd:=m+d) (xs:=us.toArray) (ys:=vs.toArray) fs.toList 0 (P.cellsOf t) ks h (by simp [fx.length];omega) (by simp [fy.length];omega) (by simpa using fx) (by simpa using fy)
      (fun f hf js XO=>⟨z6 d f.type js XO,fun x y us vs a b c d'=>ih f.type js XO m x y us vs a b c d'⟩)
     simpa using this
end
theorem GA {l m:List Kd} (h:sn l m=true):l=m:=by
 induction l generalizing m with
 |nil=>cases m<;>simp [sn] at h;rfl
 |cons a l ih=>
  cases m with
  |nil=>simp [sn] at h
  |cons b m=>
   simp only [sn,Bool.and_eq_true] at h
   rw [KL h.1,ih h.2]
def E6:List Kd→Bool
 |[]=>true
 | .l::_=>false
 | .raw::_=>false
 |_::r=>E6 r
def XP (P:Program) (t:Nat) (I:TI):Bool:=
 !E6 I.lay||!n9 I.bO||((match gj P 20 t with|some ks=>sn ks (Nf I.lay)|none=>false)&&!P.eqGuardType P.depth t&&
  (match P.underlying t with|some (.struct _)=>I.st|some (.array _ _)=>!I.st&&fj I.lay .h|some .bool=>!I.st&&fj I.lay .b|some (.int k)=>!I.st&&fj I.lay (.i k)|some .string=>!I.st&&fj I.lay .s|_=>false))
def P5 (P:Program) (Mn:List (Nat×TI)):Bool:=Mn.all fun p=>XP P p.1 p.2
theorem HQ {lay:List Kd}: ∀{ls:List ap},cJ lay ls=true→E6 lay=true:=by
 induction lay with
 |nil=>intro ls _;rfl
 |cons k lay ih=>
  intro ls h
  cases ls with
  |nil=>simp [cJ] at h
  |cons l ls=>
   simp only [cJ] at h
   cases h1:gp k l with
   |false=>simp [h1] at h
   |true=>
    simp only [h1,cond_true] at h
    have:=ih h
    cases k<;>first|exact this|(cases l<;>simp [gp] at h1)
theorem HR {t:TypeId} {x y:Value} (h:(∃b,x= .bool b)∨ ∃cs,x= .agg cs) (op:BinOp):
 (op= .eql→binOp op t x y=(do pure (.bool (←Op.equal t x y))))∧(op= .neq→binOp op t x y=(do pure (.bool (!(←Op.equal t x y))))):=by
 rcases h with ⟨b,rfl⟩|⟨cs,rfl⟩<;>refine ⟨?_,?_⟩<;>rintro rfl<;>cases y<;>rfl
theorem HS {P:Program} {Mn:List (Nat×TI)} (h:P5 P Mn=true):A5 P (pE Mn):=by
 intro t I hI hc e w vx vy sx sy b rx ry fx fy P6 P7 hb n1 n2
 have hr:=List.all_eq_true.1 h (t,I) (zX hI)
 simp only [XP,HQ fx,Bool.not_true,Bool.false_or] at hr
 rw [hc] at hr
 simp only [n9,Bool.not_true,Bool.false_or,Bool.and_eq_true,Bool.not_eq_true'] at hr
 obtain ⟨⟨hk,hg⟩,hd⟩:=hr
 cases D6:gj P 20 t with
 |none=>simp [D6] at hk
 |some ks=>
  simp only [D6] at hk
  have hk:=GA hk
  subst hk
  have cells: ∀(v:Value) (s:Slot),ae e v s→cJ I.lay (av s)=true→fN I.st s=true→(∃us,lC P t v us∧al e us (av s))∧((∃b,v= .bool b)∨(∃cs,v= .agg cs)∨(∃k n,s= .sc (.p (.i k n)))∨ ∃l,s= .sc (.p (.s l))):=by
   intro v s hv hf hs
   cases s<;>simp only [fN] at hs<;>try (cases hs;done)
   ·rename_i l
    have cY:I.st=false:=by simpa using hs
    cases hu:P.underlying t with
    |none=>simp [hu] at hd
    |some d=>
     simp only [hu] at hd
     cases d<;>simp only [cY,Bool.not_false,Bool.true_and] at hd<;>try (cases hd;done)
     ·have hl:=cr hd
      rw [hl] at hf
      simp only [av,cJ] at hf
      cases l<;>simp [gp] at hf
      rename_i m
      cases m<;>simp [gp] at hf
      have:=pu hv
      exact ⟨⟨[v],by simp [lC,hu],[v],[],rfl,hv,rfl⟩,.inl ⟨_,this⟩⟩
     ·have hl:=cr hd
      rw [hl] at hf
      simp only [av,cJ] at hf
      cases l<;>simp [gp] at hf
      rename_i m
      cases m<;>simp [gp] at hf
      exact ⟨⟨[v],by simp [lC,hu],[v],[],rfl,hv,rfl⟩,.inr (.inr (.inl ⟨_,_,rfl⟩))⟩
     ·have hl:=cr hd
      rw [hl] at hf
      simp only [av,cJ] at hf
      cases l<;>simp [gp] at hf
      rename_i m
      cases m<;>simp [gp] at hf
      exact ⟨⟨[v],by simp [lC,hu],[v],[],rfl,hv,rfl⟩,.inr (.inr (.inr ⟨_,rfl⟩))⟩
     ·have hl:=cr hd
      rw [hl] at hf
      simp only [av,cJ] at hf
      cases l<;>simp [gp] at hf
      rename_i x
      have hv:v= .agg (aV x).toArray:=hv
      exact ⟨⟨aV x,by simp [lC,hu,hv],aV x,[],by simp,rfl,rfl⟩,.inr (.inl ⟨_,hv⟩)⟩
   ·rename_i cs
    cases hu:P.underlying t with
    |none=>simp [hu] at hd
    |some d=>
     simp only [hu] at hd
     cases d<;>simp only [hs,Bool.not_true,Bool.false_and] at hd<;>try (cases hd;done)
     obtain ⟨arr,hv,jP⟩:=hv
     exact ⟨⟨arr.toList,by simp [lC,hu,hv],jP⟩,.inr (.inl ⟨_,hv⟩)⟩
  obtain ⟨⟨us,wx,lx⟩,kx⟩:=cells vx sx rx fx P6
  obtain ⟨⟨vs,wy,ly⟩,ky⟩:=cells vy sy ry fy P7
  have dq:(Op.equal t vx vy).run P w= .ok b w:=by
   have:=u6 (P:=P) (w:=w) 20 t _ D6 9980 vx vy us vs wx wy (zZ lx fx) (zZ ly fy)
   rw [KR lx ly hb] at this
   exact this
  refine ⟨dq,fun x y op=> ?_⟩
  have Rr:(∃b,vx= .bool b)∨ ∃cs,vx= .agg cs:=by
   rcases kx with h1|h1|⟨k,n,h1⟩|⟨l,h1⟩
   ·exact .inl h1
   ·exact .inr h1
   ·exfalso
    subst h1
    cases hu:P.underlying t with
    |none=>simp [hu] at hd
    |some d=>
     simp only [av] at fx fy hb
     cases KT:I.lay with
     |nil=>rw [KT] at fx;simp [cJ] at fx
     |cons k0 r0=>
      rw [KT] at fx fy
      simp only [cJ] at fx
      cases k0<;>simp [gp] at fx
      obtain ⟨ZD,IX⟩:=fx
      have IX:r0=[]:=by cases r0<;>simp [cJ] at IX;rfl
      subst IX
      cases sy<;>simp only [fN] at P6 P7<;>try (cases P7;done)
      ·rename_i l
       simp only [av,cJ] at fy
       cases l<;>simp [gp] at fy
       rename_i m
       cases m<;>simp [gp] at fy
       exact n1 _ _ _ _ rfl rfl
      ·rw [P7] at P6;cases P6
   ·exfalso
    subst h1
    simp only [av] at fx fy hb
    cases KT:I.lay with
    |nil=>rw [KT] at fx;simp [cJ] at fx
    |cons k0 r0=>
     rw [KT] at fx fy
     simp only [cJ] at fx
     cases k0<;>simp [gp] at fx
     have IX:r0=[]:=by cases r0<;>simp [cJ] at fx;rfl
     subst IX
     cases sy<;>simp only [fN] at P6 P7<;>try (cases P7;done)
     ·rename_i l
      simp only [av,cJ] at fy
      cases l<;>simp [gp] at fy
      rename_i m
      cases m<;>simp [gp] at fy
      exact n2 _ _ rfl rfl
     ·rw [P7] at P6;cases P6
  refine ⟨?_,HR Rr op⟩
  have Pp:P.eqGuardType P.depth t=false:=hg
  rcases Rr with ⟨bb,rfl⟩|⟨cs,rfl⟩
  ·cases op<;>rfl
  ·cases vy<;>cases op<;>first|rfl|(simp [eqGuard,Pp])
end Dn
/-
  A program's types of maps, looked through. Conditions: none.
-/
set_option linter.unusedSimpArgs false
set_option linter.unusedVariables false
set_option linter.constructorNameAsVariable false
namespace Dn
open Go
theorem Bt {lay:List Kd}: ∀{ks:List MV},bW lay ks=true→dT (Nf lay) (ks.flatMap tI):=by
 induction lay with
 |nil=>intro ks h;cases ks with|nil=>rfl|cons=>simp [bW] at h
 |cons k lay ih=>
  intro ks h
  cases ks with
  |nil=>simp [bW] at h
  |cons m ks=>
   simp only [bW,Bool.and_eq_true] at h
   have h2:=ih h.2
   have h1:=h.1
   cases k<;>cases m<;>simp only [tU] at h1<;>try (cases h1;done)
   ·exact ⟨_,_,rfl,rfl,h2⟩
   ·exact ⟨_,_,rfl,h1,h2⟩
   ·exact ⟨_,_,rfl,rfl,h2⟩
   ·exact (xg _).append h2
theorem Ng {lay:List Kd}: ∀{a b:List MV},bW lay a=true→bW lay b=true→eQ (a.flatMap tI) (b.flatMap tI)=dr b a:=by
 induction lay with
 |nil=>
  intro a b ha hb
  cases a<;>cases b<;>simp [bW] at ha hb
  rfl
 |cons k lay ih=>
  intro a b ha hb
  cases a with
  |nil=>simp [bW] at ha
  |cons x a=>
   cases b with
   |nil=>simp [bW] at hb
   |cons y b=>
    simp only [bW,Bool.and_eq_true] at ha hb
    have ih:=ih ha.2 hb.2
    have h1:=ha.1
    have h2:=hb.1
    cases k<;>cases x<;>simp only [tU] at h1<;>try (cases h1;done)
    all_goals cases y<;>simp only [tU] at h2<;>try (cases h2;done)
    ·rename_i p q
     simp only [List.flatMap_cons,tI,List.cons_append,List.nil_append,eQ,KQ,dr,v7,ih]
     congr 1;rw [decide_eq_decide];exact eq_comm
    ·rename_i k1 p k2 q
     have e1:=of_decide_eq_true h1
     have e2:=of_decide_eq_true h2
     subst e1;subst e2
     simp only [List.flatMap_cons,tI,List.cons_append,List.nil_append,eQ,KQ,dr,v7,ih,decide_true,Bool.true_and]
     congr 1;rw [decide_eq_decide];exact eq_comm
    ·rename_i p q
     simp only [List.flatMap_cons,tI,List.cons_append,List.nil_append,eQ,KQ,dr,v7,ih]
     congr 1;rw [decide_eq_decide];simp [eq_comm]
    ·rename_i p q
     simp only [List.flatMap_cons,tI,dr,v7]
     rw [lW (by rw [bN,bN]),zY,ih]
     congr 1;rw [decide_eq_decide];exact eq_comm
def uh:TypeDesc→Bool
 | .bool| .int _| .string=>true
 |_=>false
def SW (P:Program) (n:Nat) (fs:List Field):Bool:=fs.all fun f=>(match P.underlying f.type with|some d=>uh d|none=>false)&&Nat.ble (f.offset+1) n
def OG (P:Program) (kt:Nat) (I:TI):Bool:=match P.underlying kt with
 |some .bool=>!I.st&&fj I.lay .b
 |some (.int k)=>!I.st&&fj I.lay (.i k)
 |some .string=>!I.st&&fj I.lay .s
 |some (.struct fs)=>I.st&&(match gj P 20 kt with|some ks=>sn ks (Nf I.lay)|none=>false)&&SW P (Nf I.lay).length fs.toList
 |_=>false
def OH (b:Bool):Option Value→Bool
 |some (.bool false)=>b
 |some (.int .i64 n)=>!b&&decide (n=0)
 |_=>false
def SX (P:Program) (ti:Nat→Option TI) (t kt:Nat) (b:Bool):Bool:=match P.underlying t with
 |some (.map Ur el)=>Nat.beq Ur kt&&(match P.info? el with|some i=>OH b i.zero|none=>false)&&(match ti kt with|some I=>n9 I.bO&&OG P kt I|none=>false)
 |_=>false
def xi:List (Nat×(Nat×Bool))→Nat→Option (Nat×Bool)
 |[],_=>none
 |(k,s)::r,t=>bif Nat.beq k t then some s else xi r t
theorem HT {l:List (Nat×(Nat×Bool))} {t:Nat} {I:Nat×Bool} (h:xi l t=some I):(t,I)∈l:=by
 induction l with
 |nil=>simp [xi] at h
 |cons p l ih=>
  obtain ⟨k,s⟩:=p
  simp only [xi,cm] at h
  by_cases hk:k=t
  ·subst hk;simp at h;subst h;simp
  ·simp only [hk,decide_false,cond_false] at h
   exact List.mem_cons_of_mem _ (ih h)
def Nh (P:Program) (ti:Nat→Option TI) (l:List (Nat×(Nat×Bool))):Bool:=l.all fun p=>SX P ti p.1 p.2.1 p.2.2
theorem qw {k:Kd} {ks:List MV} (h:bW [k] ks=true): ∃m,ks=[m]∧tU k m=true:=by
 cases ks with
 |nil=>simp [bW] at h
 |cons m r=>
  cases r with
  |cons=>simp [bW] at h
  |nil=>exact ⟨m,rfl,by simpa [bW] using h⟩
theorem eo {P:Program} {t:TypeId} {d:TypeDesc} (hu:P.underlying t=some d) (hd:uh d=true) (em:Bool) (n:Nat) (v:Value) (w:World):(Instr.checkKey em (n+1) t v).run P w= .ok () w:=by
 rw [Instr.checkKey]
 simp only [Sem.run_bind,run_underlying hu,Result.andThen]
 cases d<;>simp [uh] at hd<;>cases v<;>rfl
theorem xj {P:Program} {t:TypeId} {d:TypeDesc} (hu:P.underlying t=some d) (hd:uh d=true) {xs:Array Value} {off:Nat} (h:off<xs.size) (w:World):(Go.part t xs off).run P w= .ok xs[off] w:=by
 cases d<;>simp [uh] at hd<;>simp [Go.part,isAgg,run_underlying hu,h]
theorem E7 {P:Program} {c:Ctx} {l:List (Nat×(Nat×Bool))} (h:Nh P c.ti l=true) (hm: ∀t p,c.mt t=some p→xi l t=some p):pA P c:=by
 intro t s hs
 unfold mu at hs
 cases Cb:c.mt t with
 |none=>simp [Cb] at hs
 |some p=>
  obtain ⟨kt,b⟩:=p
  simp only [Cb] at hs
  cases hI:c.tv kt with
  |none=>simp [hI] at hs
  |some I=>
   simp only [hI] at hs
   cases hit:sm ⟨I.st,I.lay,b⟩ with
   |true=>simp [hit] at hs
   |false=>
   simp only [hit,cond_false,Option.some.injEq] at hs
   subst hs
   obtain ⟨Ez,JB⟩:=bq hI
   have hb:=List.all_eq_true.1 h _ (HT (hm t _ Cb))
   simp only [SX] at hb
   split at hb
   ·rename_i Ur el hu
    simp only [Bool.and_eq_true] at hb
    obtain ⟨⟨qn,nY⟩,PL⟩:=hb
    have qn:=Nat.eq_of_beq_eq_true qn
    subst qn
    split at nY
    ·rename_i inf VT
     rw [Ez] at PL
     simp only [Bool.and_eq_true] at PL
     have hk:=PL.2
     have hz: ∀w:World,(zeroValue el).run P w= .ok (qM b (dL b)) w:=by
      intro w
      have:inf.zero=some (qM b (dL b)):=by
       generalize inf.zero=z at nY
       unfold OH at nY
       split at nY
       ·subst nY;rfl
       ·simp only [Bool.and_eq_true,Bool.not_eq_true'] at nY
        obtain ⟨h1,h2⟩:=nY
        subst h1
        rw [of_decide_eq_true h2];rfl
       ·cases nY
      simp [zeroValue,typeInfo,VT,this]
     unfold OG at hk
     refine ⟨Ur,el,hu,hz,?_⟩
     split at hk
     ·rename_i hd
      simp only [Bool.and_eq_true,Bool.not_eq_true'] at hk
      have hl:=cr hk.2
      refine ⟨fun em ks w hf=>eo hd rfl em 9999 _ w,_,hd,.inl fun a b' ha vq=> ?_⟩
      rw [hl] at ha vq
      obtain ⟨x,rfl,hx⟩:=qw ha
      obtain ⟨y,rfl,hy⟩:=qw vq
      cases x<;>simp [tU] at hx
      cases y<;>simp [tU] at hy
      rename_i p q
      simp only [hk.1,cQ,Instr.sameNow,dr,v7,Bool.and_true]
      congr 1;rw [Bool.eq_iff_iff];simp only [beq_iff_eq,decide_eq_true_eq];exact eq_comm
     ·rename_i k hd
      simp only [Bool.and_eq_true,Bool.not_eq_true'] at hk
      have hl:=cr hk.2
      refine ⟨fun em ks w hf=>eo hd rfl em 9999 _ w,_,hd,.inl fun a b' ha vq=> ?_⟩
      rw [hl] at ha vq
      obtain ⟨x,rfl,hx⟩:=qw ha
      obtain ⟨y,rfl,hy⟩:=qw vq
      cases x<;>simp [tU] at hx
      cases y<;>simp [tU] at hy
      subst hx;subst hy
      rename_i p q
      simp only [hk.1,cQ,Instr.sameNow,dr,v7,Bool.and_true,if_true,decide_true,Bool.true_and]
      congr 1;rw [Bool.eq_iff_iff];simp only [beq_iff_eq,decide_eq_true_eq];exact eq_comm
     ·rename_i hd
      simp only [Bool.and_eq_true,Bool.not_eq_true'] at hk
      have hl:=cr hk.2
      refine ⟨fun em ks w hf=>eo hd rfl em 9999 _ w,_,hd,.inl fun a b' ha vq=> ?_⟩
      rw [hl] at ha vq
      obtain ⟨x,rfl,hx⟩:=qw ha
      obtain ⟨y,rfl,hy⟩:=qw vq
      cases x<;>simp [tU] at hx
      cases y<;>simp [tU] at hy
      rename_i p q
      simp only [hk.1,cQ,Instr.sameNow,dr,v7,Bool.and_true]
      congr 1;rw [beq_toListBytes,ByteArray.toList_eq,ByteArray.toList_eq,Bool.eq_iff_iff];simp only [beq_iff_eq,decide_eq_true_eq,List.toList_toArray];exact eq_comm
     ·rename_i fs hd
      simp only [Bool.and_eq_true] at hk
      obtain ⟨⟨cY,Oz⟩,Ku⟩:=hk
      split at Oz
      ·rename_i ks D6
       have Oz:=GA Oz
       subst Oz
       have SY: ∀q,cQ true q= .agg (q.flatMap tI).toArray:=by intro q;rfl
       refine ⟨fun em q w hf=> ?_,_,hd,.inr fun x y hx hy=>⟨?_,fun w=> ?_⟩⟩
       ·have hlen:(q.flatMap tI).length=(Nf I.lay).length:=(Bt hf).length
        rw [cY,SY,show (10000:Nat)=9999+1 from rfl,Instr.checkKey]
        simp only [Sem.run_bind,run_underlying hd,Result.andThen_ok]
        rw [←Array.forIn_toList]
        have each: ∀f∈fs.toList,(∃d,P.underlying f.type=some d∧uh d=true)∧f.offset<(q.flatMap tI).toArray.size:=by
         intro f hf
         have:=List.all_eq_true.1 Ku f hf
         simp only [Bool.and_eq_true] at this
         obtain ⟨h1,h2⟩:=this
         split at h1
         ·rename_i d hd;exact ⟨⟨d,hd,h1⟩,by have:=Nat.le_of_ble_eq_true h2;simp only [List.size_toArray];omega⟩
         ·cases h1
        clear Ku
        generalize fs.toList=L at each
        generalize (q.flatMap tI).toArray=xs at each
        induction L with
        |nil=>simp
        |cons f L ih=>
         obtain ⟨⟨d,h1,h2⟩,h3⟩:=each f (by simp)
         have qn:=eo h1 h2 em 9998 xs[f.offset] w
         have nY:=xj (P:=P) h1 h2 h3 w
         by_cases hn:f.name= "_"
         ·simp only [List.forIn_cons,Sem.run_bind,hn,ne_eq,not_true_eq_false,if_false,Result.andThen_ok,Sem.run_pure]
          exact ih (fun y hy=>each y (by simp [hy]))
         ·simp only [List.forIn_cons,Sem.run_bind,hn,ne_eq,not_false_eq_true,if_true,Result.andThen_ok,qn,nY,Sem.run_pure]
          exact ih (fun y hy=>each y (by simp [hy]))
       ·rw [cY,SY,SY];rfl
       ·rw [cY,SY,SY]
        have:=u6 (P:=P) (w:=w) 20 Ur _ D6 9980 (.agg (x.flatMap tI).toArray) (.agg (y.flatMap tI).toArray) (x.flatMap tI) (y.flatMap tI) (by simp [lC,hd]) (by simp [lC,hd]) (Bt hx) (Bt hy)
        rw [Ng hx hy] at this
        exact this
      ·cases Oz
     ·cases hk
    ·cases nY
   ·cases hb
end Dn
/-
  Functions that are handed a variable do what their abstract run says. Conditions: none.
-/
set_option linter.unusedSimpArgs false
set_option linter.unusedVariables false
namespace Dn
open Go
section
variable {P:Program} {c:Ctx} {Z:aW} {e e':Env} {st bc:St} {a a':Act} {w w':World} {R:Type} {r:R}
theorem HU {rs:List ResultVar} (hT:fc P c.ti): ∀{e:Env} {st:St} {K:List MV→St→Option R},bj c Z e st a w→He c st rs K=some r→
 ∃e' bc ms vs,bj c Z e' bc a w∧Ext Z.In e e'∧(rs.mapM (eP a.tmps)).run P w= .ok vs w∧bB e'.key e'.φ vs ms∧K ms bc=some r:=by
 induction rs with
 |nil=>intro e st K h hK;exact ⟨e,st,[],[],h,.refl _ _,by simp,rfl,hK⟩
 |cons x rs ih=>
  intro e st K h hK
  have go: ∀(s:Slot) (v:Value),ae e v s→(eP a.tmps x).run P w= .ok v w→(fM st s fun m st=>He c st rs fun ms st=>K (m::ms) st)=some r→
   ∃e' bc ms vs,bj c Z e' bc a w∧Ext Z.In e e'∧((x::rs).mapM (eP a.tmps)).run P w= .ok vs w∧bB e'.key e'.φ vs ms∧K ms bc=some r:=by
   intro s v hs bx hK
   obtain ⟨e1,ca,m,h1,h2,h3,h4,hK⟩:=gG h hs hK
   obtain ⟨e2,ch,ms,vs,q1,q2,q3,q4,hK⟩:=ih h1 hK
   refine ⟨e2,ch,m::ms,v::vs,q1,h2.trans q2,?_,⟨v,vs,rfl,?_,q4⟩,hK⟩
   ·simp [List.mapM_cons,bx,q3]
   ·have:=h4.mono q2.on.φ
    rw [←q2.on.key] at this;exact this
  simp only [He] at hK
  cases x with
  |tmp t=>
   simp only at hK
   have hs:=h.slot t
   by_cases hb: ∃cs,ah st.fr t= .box cs
   ·obtain ⟨cs,hb⟩:=hb
    rw [hb] at hK
    simp [fM] at hK
   ·refine go (ah st.fr t) (a.tmps.getD t undef) ?_ rfl hK
    generalize ah st.fr t=s at hs hb
    cases s<;>first|exact hs|exact absurd ⟨_,rfl⟩ hb
  |cell b t=>
   simp only at hK
   have hs:=h.slot b
   split at hK
   ·rename_i I cs hI hb
    obtain ⟨Ez,JB⟩:=bq hI
    rw [hb] at hs
    obtain ⟨hv,sG⟩:=hs
    cases rQ:cE cs||pc b with
    |true=>simp [rQ] at hK
    |false=>
    obtain ⟨mO,SO⟩:=Bool.or_eq_false_iff.1 rQ
    simp only [rQ,cond_false] at hK
    have hv:=hv.1 SO
    rw [mw mO] at hv
    obtain ⟨arr,T,cc,jP⟩:=sG.cells mO
    have hm:w.rangeAt (e.B b) 0 arr.toList:=by
     intro j v hj
     rw [Nat.zero_add,cell_of cc];simpa using hj
    obtain ⟨v,s,h1,h2,h3,h4⟩:=ej (P:=P) (st:=st) (s:= .skip) (hT t I Ez) JB jP hm hK
    refine go s v h2 ?_ h4
    simpa [eP,hv,asAddr,Instr.loadAt,Instr.sureAddr] using h1 w hm
   ·simp at hK
theorem xk {key:Nat→Nat} {φ:Ph} {v:Value} {m:MV} (h:dv key φ v (.cell m)):False:=by
 have:=h.1
 simp [MV.one] at this
theorem SZ (off pos:Nat):pc (1000000+off *1000+pos)=true:=Nat.ble_eq_true_of_le (by omega)
theorem KU {f pos:Nat} {ks:List LK} {fn:Func} {bk:List (List Kd)} {ms:List MV} {m:MV} (hG:Good P c) (hD:xb P c) (hf:P.funcs[f]? =some fn) (xc:(fn.name== "runtime.NumGoroutine")=false)
 (hn:c.n=fn.ntmps) (So:fn.ntmps≤1000000) (kK:fn.params.size+bk.length≤fn.ntmps) (hg:c.df (c.key f)=true) (qP:c.sig (c.key f)=some (pos,ks)) (hb:F7 c bk pos ks fn ms=some m):kN P c f ms m:=by
 intro φ w Z vs hz dZ mS
 unfold F7 at hb
 cases oT:fn.body with
 |none=>simp [oT] at hb
 |some b=>
 simp only [oT] at hb
 split at hb
 rotate_left
 ·simp at hb
 rename_i b' off ls vq rQ
 cases vq
 cases fL:!dt c ks||!Nat.ble pos 999 with
 |true=>simp [fL] at hb
 |false=>
 simp only [fL,cond_false] at hb
 simp only [Bool.or_eq_false_iff,Bool.not_eq_false'] at fL
 obtain ⟨dR,ek⟩:=fL
 have ek:=Nat.le_of_ble_eq_true ek
 simp only [dS,hg,if_true] at dZ
 have hC:Oq c Z φ w (c.key f) vs ms:=by
  rcases dZ with ⟨v0,v1,v2,xs,m1,ys,_,rfl,_,h4,_⟩|⟨v0,v1,v2,xs,m1,m2,_,rfl,_,_,h4,h5⟩|h
  ·exfalso
   rcases pos with _|_|_|pos<;>simp at rQ
   subst rQ
   exact xk h4
  ·exfalso
   rcases pos with _|_|_|pos<;>simp at rQ
   ·subst rQ;exact xk h4
   ·subst rQ;exact xk h5
  ·exact h
 obtain ⟨pos',XI,Hd,oS,aN,pg,Rm,P8,mZ,lJ⟩:=hC
 rw [qP] at pg
 simp only [Option.some.injEq,Prod.mk.injEq] at pg
 obtain ⟨rfl,rfl⟩:=pg
 rw [rQ] at P8
 simp only [Option.some.injEq,MV.cell.injEq,MV.func.injEq] at P8
 obtain ⟨rfl,rfl⟩:=P8
 obtain ⟨cs,mm,E,arr,T,pC,cc,Sx,lN,jP,db,cH⟩:=lJ
 let e:Env:=⟨c.key,φ,E,fun _=>aN,mm⟩
 have bx:(callFunc f vs.toArray).run P w= .ok (.enter f vs.toArray) w:=by
  have Ey: ¬fn.name= "runtime.NumGoroutine" :=by simpa using xc
  simp [callFunc,hf,Ey,oT]
 unfold fh
 rw [bx]
 refine calls_of_wp hf oT ?_
 have mZ:bB e.key e.φ vs (ms.set pos (.rp [])):=mZ
 obtain ⟨fr,rest,iL,o7,hb,rfl,l1,a2,k1,s1⟩:=u0 mZ hb
 obtain ⟨iU,hb,l2,k2,s2⟩:=zU a2 hb
 simp only [nQ] at hb
 obtain ⟨cT,S0,qj,g1,hb⟩:=ec hb
 cases S0 with
 |cons=>simp [gN] at hb
 |nil=>
 simp only [gN] at hb
 have dq:cs=cT∧mm=qj.az:=by
  unfold Gi at pC
  rw [g1] at pC
  simp only [gN,Option.some.injEq,Prod.mk.injEq] at pC
  exact ⟨pC.1.symm,pC.2.symm⟩
 obtain ⟨rfl,Oi⟩:=dq
 rw [←Oi] at hb
 have VP:(iL++o7).toArray.size=fn.params.size+bk.length:=by simp [l1,l2]
 let a:Act:={tmps:=(iL++o7).toArray++Array.replicate (fn.ntmps-(iL++o7).toArray.size) undef,defers:=[]}
 have B8: ∀(t:Nat) (v:Value),(iL++o7)[t]? =some v→a.tmps.getD t undef=v:=by
  intro t v ht
  have dE:t<(iL++o7).length:=(List.getElem?_eq_some_iff.1 ht).1
  rw [Array.getD_eq_getD_getElem?]
  show (((iL++o7).toArray++Array.replicate _ undef)[t]?).getD undef=v
  rw [Array.getElem?_append_left (by simpa using dE)]
  simp only [List.getElem?_toArray]
  rw [ht];rfl
 have xd: ∀t,bV (ah (fr++iU) t)=false∧(∀cs,ah (fr++iU) t≠ .box cs)∧ae e (a.tmps.getD t undef) (ah (fr++iU) t):=by
  intro t
  rw [po]
  by_cases h1:t∈ay fr
  ·simp only [h1,if_true]
   obtain ⟨g1,g2,v,g3,g4⟩:=s1 _ (sP h1)
   refine ⟨g1,?_,?_⟩
   ·intro cs hc;simp only [hc,bI] at g2;cases g2
   ·rw [B8 t v ?_];exact g4
    have dE:t<iL.length:=(List.getElem?_eq_some_iff.1 g3).1
    rw [List.getElem?_append_left dE];exact g3
  ·simp only [h1,if_false]
   by_cases h2:t∈ay iU
   ·obtain ⟨g1,g2,v,g3,g4⟩:=s2 _ (sP h2)
    refine ⟨g1,g2,?_⟩
    rw [B8 t v ?_];exact g4
    have hk:=h2
    rw [k2,List.mem_range'] at hk
    obtain ⟨i,hi,he⟩:=hk
    have qZ:fn.params.size=iL.length:=by rw [l1];simp
    rw [List.getElem?_append_right (by omega),←qZ];exact g3
   ·rw [km _ _ h2]
    exact ⟨rfl,fun cs hc=>(by cases hc),by simp [ae]⟩
 obtain ⟨q,hq⟩: ∃q,q=1000000+off *1000+pos:=⟨_,rfl⟩
 have EY:pc q=true:=by rw [hq];exact SZ off pos
 have SH:posOf q=pos:=by rw [hq];unfold posOf;omega
 have ZE:Cd q=off:=by rw [hq];unfold Cd;omega
 rw [←hq] at hb
 let Zc:aW:={aW.plain Z with bt:=[pos],T:=fun _=> .pointer (some ⟨aN,off,none⟩)}
 have S1:a.tmps.getD pos undef= .pointer (some ⟨aN,off,none⟩):=B8 pos _ Rm
 have HB: ∀t,ah ((q,Slot.box cs)::(fr++iU)) t=if t=q then .box cs else ah (fr++iU) t:=by
  intro t
  simp only [ah,cm]
  by_cases HV:t=q
  ·subst HV;simp
  ·have: ¬q=t:=fun h=>HV h.symm
   simp [HV,this]
 have S2:ay (fr++iU)=List.range' 0 (fn.params.toList.length+bk.length):=by
  have:ay (fr++iU)=ay fr++ay iU:=by simp [ay]
  rw [this,k1,k2]
  have:=List.range'_append_1 (s:=0) (m:=fn.params.toList.length) (n:=bk.length)
  simpa using this
 have OI: ∀t ds,ah ((q,Slot.box cs)::(fr++iU)) t= .box ds→t=q:=by
  intro t ds ht
  rw [HB] at ht
  by_cases HV:t=q
  ·exact HV
  ·rw [if_neg HV] at ht;exact absurd ht ((xd t).2.1 ds)
 have iX:bj c Zc e ⟨[pos],[],(q,.box cs)::(fr++iU),mm⟩ a w:=by
  refine ⟨⟨rfl,rfl,rfl,fun t ht=> ?_⟩,?_,rfl,rfl,?_,?_,?_,fun f o ho=> ?_,fun t t' cs cT h1 h2 cz=> ?_,fun t ds f o h1 ho=> ?_,fun f f' o o' k h1 h2 h3 h4=>cH f f' o o' k h1 h2 h3 h4,mS,hz⟩
  ·have:t=pos:=by simpa [Zc] using ht
   rw [this];exact S1
  ·show ((iL++o7).toArray++Array.replicate (fn.ntmps-(iL++o7).toArray.size) undef).size=c.n
   rw [Array.size_append,Array.size_replicate,VP,hn];omega
  ·show (ay ((q,Slot.box cs)::(fr++iU))).Nodup
   show (q::ay (fr++iU)).Nodup
   rw [S2]
   refine List.nodup_cons.2 ⟨fun hm=> ?_,List.nodup_range'⟩
   rw [List.mem_range'] at hm
   obtain ⟨i,hi,he⟩:=hm
   have:fn.params.toList.length=fn.params.size:=by simp
   omega
  ·intro t
   show bp Zc e w t _ (ah ((q,Slot.box cs)::(fr++iU)) t)
   rw [HB]
   by_cases HV:t=q
   ·rw [if_pos HV,HV]
    exact ⟨⟨fun hp=>(by rw [EY] at hp;cases hp),fun _=>⟨by rw [SH];simp [Zc],by rw [ZE]⟩⟩,⟨.inr Sx,⟨_,cc,rfl,jP⟩,lN⟩⟩
   ·rw [if_neg HV]
    obtain ⟨g1,g2,g3⟩:=xd t
    generalize ah (fr++iU) t=s at g1 g2 g3
    cases s<;>first|exact g3|exact absurd rfl (g2 _)
  ·intro t
   show bD _ (ah ((q,Slot.box cs)::(fr++iU)) t)
   rw [HB]
   by_cases HV:t=q
   ·rw [if_pos HV];trivial
   ·rw [if_neg HV];exact mX (xd t).1
  ·obtain ⟨I,cells,q1,q2,q3,q4,q5⟩:=(db f o ho).1.row
   exact ⟨I,cells,q1,q2,q3,q4,fun b hb=>⟨.inr (q5 b hb).1,(q5 b hb).2.1,fun hc=>by simp [Zc,aW.fz,aW.plain] at hc⟩⟩
  ·exact absurd ((OI t _ h1).trans (OI t' _ h2).symm) cz
  ·exact (db f o ho).2
 refine lV hG hD b iX hb ?_
 intro n e' bc a' w' h' t' hK
 cases hle:Nat.ble n 1 with
 |false=>simp [hle] at hK
 |true=>
  simp only [hle,cond_true] at hK
  obtain ⟨e2,ch,ns,us,q1,q2,q3,q4,hK⟩:=HU (P:=P) hG.ti h' hK
  split at hK
  rotate_left
  ·simp at hK
  rename_i nK q8
  cases Ga:cE nK with
  |true=>simp [Ga] at hK
  |false=>
  simp only [Ga,cond_false] at hK
  obtain ⟨outs,ps,ht,hK⟩:=rP hK
  simp only [Option.some.injEq] at hK
  have o4:(results fn a'.tmps).run P w'= .ok (if h:us.toArray.size=1 then us.toArray[0] else .tuple us.toArray) w':=by
   have hm:(fn.results.mapM (eP a'.tmps)).run P w'= .ok us.toArray w':=by
    rw [Array.mapM_eq_mapM_toList]
    simp [q3]
   have Ga:results fn a'.tmps=(do let vs←fn.results.mapM (eP a'.tmps);pure (if h:vs.size=1 then vs[0] else .tuple vs)):=by
    unfold results
    congr 1
   rw [Ga]
   simp [hm]
  have S3:=q1.slot q
  rw [q8] at S3
  obtain ⟨_,hT⟩:=S3.1.2 EY
  have hB:e2.B q=aN:=by
   have hT:Value.pointer (some ⟨aN,off,none⟩)= .pointer (some ⟨e2.B q,Cd q,none⟩):=hT
   simp only [Value.pointer.injEq,Option.some.injEq,Addr.mk.injEq] at hT
   exact hT.1.symm
  have S4:aT ch.bt q=false:=by
   rw [q1.defers.2.1]
   cases hh:aT Zc.bt q with
   |false=>rfl
   |true=>
    have:=(aU _ _).1 hh
    have:q=pos:=by simpa [Zc] using this
    omega
  have ZF:=(wL q1 q8 Ga dR ht).wide (sM q1 q8 S4 ht)
  have D8:e2.key=c.key:=q1.key
  have CQ: ∃φ',Trans Z φ w φ' w'∧vR φ' w'∧ra c Z φ' w' (c.key f) (iL++o7) (if h:us.toArray.size=1 then us.toArray[0] else .tuple us.toArray) m:=by
   refine ⟨e2.φ,t'.trans q2.tr,q1.gE,?_⟩
   rw [D8] at q4
   subst hK
   refine ⟨?_,pos,ks,aN,off,qP,Rm,by rw [←hB];exact ZF⟩
   by_cases M3: ∃m',ns=[m']
   ·obtain ⟨m',rfl⟩:=M3
    obtain ⟨v,u,rfl,g1,g2⟩:=q4
    have g2:u=[]:=g2
    subst g2
    simp only [List.size_toArray,List.length_singleton,dite_true]
    cases m'<;>first|exact g1|exact absurd g1.1 (by simp [MV.one])
   ·have hm:RL ns= .cN ns:=by
     cases ns with
     |nil=>rfl
     |cons x l=>
      cases l with
      |nil=>exact absurd ⟨x,rfl⟩ M3
      |cons=>rfl
    have cz:us.toArray.size≠1:=by
     intro h1
     have:=q4.length
     rw [List.size_toArray] at h1
     rw [h1] at this
     obtain ⟨m1,h2⟩:=List.length_eq_one_iff.1 this.symm
     exact M3 ⟨m1,h2⟩
    rw [hm,dif_neg cz]
    exact ⟨us.toArray,rfl,by simpa using q4⟩
  match n,hle with
  |0,_=>exact ⟨h'.defers.1,_,o4,_,rfl,CQ⟩
  |1,_=>exact ⟨h'.defers.1,_,o4,_,rfl,CQ⟩
  |n+2,hle=>simp [Nat.ble] at hle
end
end Dn
/-
  Operations whose order is open. Conditions: none.
-/
set_option linter.unusedSimpArgs false
set_option linter.unusedVariables false
namespace Dn
open Go
section
variable {P:Program} {c:Ctx} {ops:Array Oper} {N:Act→World→Prop}
def na (N:Act→World→Prop):Exit→Act→World→Prop
 | .normal,a,w=>N a w
 |_,_,_=>False
def oa (c:Ctx) (oi:Oper) (ops:Array Oper) (i:Nat):Bool:=match ops[i]? with|some o=>Jk c o||qU oi o|none=>true
def yS (P:Program) (c:Ctx) (ops:Array Oper) (N:Act→World→Prop) (φ:Ph):Nat→Array Bool→Act→World→Prop
 |0,listed,a,w=>Region.ready .any ops listed=[]∧N a w
 |fuel+1,listed,a,w=>(Region.ready .any ops listed=[]→N a w)∧
  ∀i∈Region.ready .any ops listed,wpOp P ops (na N) i (fun a' w'=>((∀oi,oa c oi ops i=true→cM c oi w w')∧vR φ w')∧yS P c ops N φ fuel (listed.setIfInBounds i true) a' w') a w
theorem HW {φ φ':Ph} (hp:j7 φ φ'): ∀(fuel:Nat) (listed:Array Bool) (a:Act) (w:World),yS P c ops N φ' fuel listed a w→yS P c ops N φ fuel listed a w:=by
 intro fuel
 induction fuel with
 |zero=>intro listed a w h;exact h
 |succ fuel ih=>intro listed a w h;exact ⟨h.1,fun i hi=>wpOp_mono (fun a w h=>⟨⟨h.1.1,fun b o v hv=>h.1.2 b o v (hp b o v hv)⟩,ih _ _ _ h.2⟩) (h.2 i hi)⟩
theorem KV {φ:Ph}: ∀(fuel:Nat) (listed:Array Bool) (a:Act) (w:World),yS P c ops N φ fuel listed a w→wpAny P .any ops (na N) fuel listed a w:=by
 intro fuel
 induction fuel with
 |zero=>intro listed a w h;exact h
 |succ fuel ih=>intro listed a w h;exact ⟨h.1,fun i hi=>wpOp_mono (fun a w h=>ih _ _ _ h.2) (h.2 i hi)⟩
theorem E8 {oi oj p:Oper} {w w':World} (h1:qU oi p=true) (h2:qU oj p=true) (h:cM c oi w w'):cM c oj w w':=by
 unfold qU at h1 h2
 split at h1
 ·rename_i t t' g1 g2
  split at h2
  ·rename_i u u' g3 g4
   rw [g2] at g4
   cases g4
   have e1:=Nat.eq_of_beq_eq_true h1
   have e2:=Nat.eq_of_beq_eq_true h2
   subst e1;subst e2
   simpa [cM,HD,g1,g3] using h
  ·cases h2
 ·cases h1
theorem P9 {j:Nat} {oi oj:Oper} {v:Value} (hj:ops[j]? =some oj) (uc:oi.apart ops oj=true)
 (ZG: ∀cs b,oi.op≠ .select cs b) (Rs: ∀cs b,oj.op≠ .select cs b) {K:Act→World→Prop} {a:Act} {w:World} (h:wpOp P ops (na N) j K (a.put oi.dst v) w):
 wpOp P ops (na N) j (fun a' w'=>(execOp a'.eval oi=execOp a.eval oi∧Region.wanted oi (yielded ops a'.tmps)=Region.wanted oi (yielded ops a.tmps))∧K (a'.put oi.dst v) w') a w:=by
 obtain ⟨h1,h2,h3⟩:=Oper.apart_spec uc
 have keep: ∀(a:Act) (u:Value),execOp (a.put oj.dst u).eval oi=execOp a.eval oi∧Region.wanted oi (yielded ops (a.put oj.dst u).tmps)=Region.wanted oi (yielded ops a.tmps):=
  fun a u=>⟨execOp_put oi ZG a oj.dst u h3,wanted_put oi a oj.dst u h3⟩
 unfold wpOp at *
 simp only [hj] at *
 rw [wanted_put oj a oi.dst v h1] at h
 split
 ·rename_i hw
  simp only [hw,if_true] at h
  rcases h with h|⟨S5,KW⟩
  case inr=>obtain ⟨_,_,hf⟩:=KW;exact hf.elim
  refine .inl ?_
  unfold Oper.wp at *
  rw [execOp_put oj Rs a oi.dst v h1] at h
  generalize (execOp a.eval oj).run P w=r at *
  cases r with
  |ok n w'=>
   cases n<;>simp only [Oper.upon] at h⊢
   case value u=>exact ⟨keep a u,by rw [←Act.put_comm a v u h2];exact h⟩
   case skip=>exact ⟨keep a _,by rw [←Act.put_comm a v undef h2];exact h⟩
   case defer d=>
    refine ⟨keep _ _,?_⟩
    rw [←Act.put_comm _ v undef h2,←Act.put_defers]
    exact h
   case enter f args=>
    refine Calls.mono h fun x tX he=> ?_
    cases x with
    |returned u=>exact ⟨keep a u,by rw [←Act.put_comm a v u h2];exact he⟩
    |panicked c=>exact he
    |outgrown=>exact he
   case row row args=>exact Rows.mono h fun u tX he=>⟨keep a u,by rw [←Act.put_comm a v u h2];exact he⟩
  |halt x w'=>
   cases x<;>simp only [Oper.upon] at h⊢
   case panic u=>exact h
 ·rename_i hw
  simp only [hw] at h
  exact ⟨keep a _,by rw [←Act.put_comm a v undef h2];exact h⟩
def GB (P:Program) (c:Ctx) (ops:Array Oper) (φ:Ph) (o:Oper) (v:Value) (a:Act) (w:World):Prop:=
 (Region.wanted o (yielded ops a.tmps)=true∧ ∀w',(fb c o=true→(still c o=false→cM c o w w')∧vR φ w')→(execOp a.eval o).run P w'= .ok (.value v) w')∨
 (Region.wanted o (yielded ops a.tmps)=false∧v=undef)
theorem xl {φ:Ph} {i:Nat} {oi:Oper} {v:Value} {D:List Nat} (hD: ∀j oj,j∈D→j≠i→ops[j]? =some oj→ ∃e∈oj.after,Region.binds .any e=true∧e.on∈D) (hi:ops[i]? =some oi) (CW: ∀(j:Nat) (o:Oper) cs b,ops[j]? =some o→o.op≠ .select cs b):
 ∀(fuel:Nat) (listed:Array Bool) (a:Act) (w:World),
  (∀j oj,ops[j]? =some oj→j∉D→j≠i→listed.getD j true=false→oi.apart ops oj=true∧(fb c oi=true→still c oi=false→oa c oi ops j=true))→(∀d∈D,listed.getD d false=false)→
  i∈Region.ready .any ops listed→GB P c ops φ oi v a w→vR φ w→
  yS P c ops N φ fuel (listed.setIfInBounds i true) (a.put oi.dst v) w→yS P c ops N φ (fuel+1) listed a w:=by
 have self: ∀(fuel:Nat) (listed:Array Bool) (a:Act) (w:World),GB P c ops φ oi v a w→vR φ w→yS P c ops N φ fuel (listed.setIfInBounds i true) (a.put oi.dst v) w→
  wpOp P ops (na N) i (fun a' w'=>((∀oi,oa c oi ops i=true→cM c oi w w')∧vR φ w')∧yS P c ops N φ fuel (listed.setIfInBounds i true) a' w') a w:=by
  intro fuel listed a w hy hm H
  unfold wpOp
  simp only [hi]
  rcases hy with ⟨hw,hv⟩|⟨hw,rfl⟩
  ·simp only [hw,if_true,Oper.wp,hv w (fun _=>⟨fun _=>(cb.refl w).for,hm⟩),Oper.upon]
   exact .inl ⟨⟨fun _ _=>(cb.refl w).for,hm⟩,H⟩
  ·simp only [hw,Bool.false_eq_true,if_false]
   exact ⟨⟨fun _ _=>(cb.refl w).for,hm⟩,H⟩
 intro fuel
 induction fuel with
 |zero=>
  intro listed a w _ _ hr hy hm H
  refine ⟨fun h=>(by rw [h] at hr;cases hr),fun j hj=> ?_⟩
  by_cases Ni:j=i
  ·subst Ni;exact self 0 listed a w hy hm H
  ·have:=ready_mono hj Ni
   rw [H.1] at this
   cases this
 |succ fuel ih=>
  intro listed a w lN yT hr hy hm H
  refine ⟨fun h=>(by rw [h] at hr;cases hr),fun j hj=> ?_⟩
  by_cases Ni:j=i
  ·subst Ni;exact self (fuel+1) listed a w hy hm H
  ·have h1:=H.2 j (ready_mono hj Ni)
   obtain ⟨Nj,oj,OJ,kL⟩:=mem_ready.1 hj
   have Us:j∉D:=by
    intro ZH
    obtain ⟨e,he,hb,my⟩:=hD j oj ZH Ni OJ
    have h1:=kL e he hb
    rw [yT e.on my] at h1;cases h1
   obtain ⟨uc,D7⟩:=lN j oj OJ Us Ni Nj
   have h2:=P9 OJ uc (fun cs b=>CW i oi cs b hi) (fun cs b=>CW j oj cs b OJ) h1
   have S6: ∀d∈D,(listed.setIfInBounds j true).getD d false=false:=by
    intro d hd
    rw [getD_set_ne false (fun he=>Us (by rw [he];exact hd))];exact yT d hd
   have Qa: ∀k ok,ops[k]? =some ok→k∉D→k≠i→(listed.setIfInBounds j true).getD k true=false→oi.apart ops ok=true∧(fb c oi=true→still c oi=false→oa c oi ops k=true):=fun k ok hk ZI ZJ PZ=>by
    refine lN k ok hk ZI ZJ ?_
    by_cases S7:j=k
    ·subst S7;exact Nj
    ·rw [getD_set_ne true S7] at PZ;exact PZ
   refine wpOp_mono (fun a' w' h3=>⟨h3.2.1,ih (listed.setIfInBounds j true) a' w' Qa S6 (ready_mono hr (Ne.symm Ni)) ?_ h3.2.1.2 ?_⟩) h2
   ·obtain ⟨⟨he,Qb⟩,⟨hg,_⟩,_⟩:=h3
    rcases hy with ⟨hw,hv⟩|⟨hw,rfl⟩
    ·refine .inl ⟨by rw [Qb];exact hw,fun tX PK=> ?_⟩
     rw [he]
     exact hv tX (fun hl=>⟨fun hs=>(hg oi (D7 hl hs)).trans ((PK hl).1 hs),(PK hl).2⟩)
    ·exact .inr ⟨by rw [Qb];exact hw,rfl⟩
   ·rw [Array.setIfInBounds_comm _ _ Ni]
    exact h3.2.2
variable {Z:aW} {R:Type} {K:St→Option R} {r:R}
theorem HX (op:Op):Em op=op.operands.toList:=by
 cases op<;>first|rfl|simp [Em,Op.operands,Call.operands]
 all_goals first|rfl|(rename_i c;cases c.callee<;>simp)
theorem KX (l:List Operand):Cl l=l.filterMap fun| .tmp t=>some t|_=>none:=by
 induction l with
 |nil=>rfl
 |cons x l ih=>cases x<;>simp [Cl,ih]
theorem z7 (o:Oper):AZ ops.toList o=o.looksAt ops:=by
 unfold AZ Oper.looksAt
 rw [HX,KX]
 congr 1
 cases o.guard with
 |none=>rfl
 |some g=>
  obtain ⟨g,wnt⟩:=g
  simp only [Array.getElem?_toList]
  cases ops[g]? <;>rfl
theorem qx {x y:Oper} (h:A0 ops.toList x y=true):x.apart ops y=true:=by
 unfold A0 at h
 unfold Oper.apart
 rw [z7,z7] at h
 have hn: ∀(l:List Nat) (d:Nat),aT l d=l.contains d:=by
  intro l d
  have:=aU l d
  cases h1:aT l d<;>cases h2:l.contains d<;>simp_all
 cases hx:x.dst<;>cases hy:y.dst<;>simp_all [bne,cm]
theorem nb (e:Edge):tR e=Region.binds .any e:=by
 unfold tR Region.binds
 cases e.ground<;>rfl
structure KY (ops:Array Oper) (listed:Array Bool) (pre:List Nat):Prop where
 size:listed.size=ops.size
 mem: ∀i,i<ops.size→(listed.getD i true=true↔i∈pre)
theorem KY.set {listed:Array Bool} {pre:List Nat} {x:Nat} (h:KY ops listed pre) (hx:x<ops.size):KY ops (listed.setIfInBounds x true) (x::pre):=by
 refine ⟨by simpa using h.size,fun i hi=> ?_⟩
 by_cases Rt:x=i
 ·subst Rt
  have:x<listed.size:=by rw [h.size];exact hx
  simp [this]
 ·rw [getD_set_ne true Rt,h.mem i hi]
  simp only [List.mem_cons]
  exact ⟨.inr,fun hh=>hh.resolve_left (fun he=>Rt he.symm)⟩
theorem KY.sR {listed:Array Bool} {pre:List Nat} {i:Nat} (h:KY ops listed pre) (hi:i<ops.size):listed.getD i true=false↔i∉pre:=by
 rw [←h.mem i hi];cases listed.getD i true<;>simp
theorem KY.done {listed:Array Bool} {pre:List Nat} {i:Nat} (h:KY ops listed pre) (hi:i<ops.size):listed.getD i false=true↔i∈pre:=by
 rw [←h.mem i hi]
 have hl:i<listed.size:=by rw [h.size];exact hi
 simp [hl]
theorem pF: ∀(rest pre:List Nat),mR c ops.toList pre rest=true→ ∀z∈rest,z∉pre:=by
 intro rest
 induction rest with
 |nil=>intro pre _ z hz;cases hz
 |cons y rest ZK=>
  intro pre hd z hz
  simp only [mR] at hd
  cases hy:ops.toList[y]? with
  |none=>simp [hy] at hd
  |some oy=>
   simp only [hy,Bool.and_eq_true,Bool.not_eq_true'] at hd
   rcases List.mem_cons.1 hz with rfl|hz
   ·rw [←aU,hd.1.1.1.2];simp
   ·exact fun ZL=>ZK (y::pre) hd.2 z hz (by simp [ZL])
theorem yU {o:Oper} {x:Nat}: ∀(rest D0:List Nat),kF c ops.toList o D0 rest=true→(∀y,y∈D0→y≠x→ ∃p,ops[y]? =some p∧ ∃e∈p.after,Region.binds .any e=true∧e.on∈D0)→
 ∃D:List Nat,(∀y∈D0,y∈D)∧(∀y∈D,y∈D0∨y∈rest)∧(∀j oj,j∈D→j≠x→ops[j]? =some oj→ ∃e∈oj.after,Region.binds .any e=true∧e.on∈D)∧
  (∀y∈rest,y∉D→ ∃p,ops[y]? =some p∧o.apart ops p=true∧(fb c o=true→still c o=false→(Jk c p||qU o p)=true)):=by
 intro rest
 induction rest with
 |nil=>
  intro D0 _ h0
  refine ⟨D0,fun y hy=>hy,fun y hy=> .inl hy,fun j oj hj cz ho=> ?_,fun y hy=>by cases hy⟩
  obtain ⟨p,hp,he⟩:=h0 j hj cz
  rw [ho] at hp;cases hp;exact he
 |cons y rest ih=>
  intro D0 h h0
  simp only [kF] at h
  cases hy:ops.toList[y]? with
  |none=>simp [hy] at h
  |some p=>
   simp only [hy] at h
   have XQ:ops[y]? =some p:=by simpa using hy
   cases he:rG p (aT D0) with
   |true=>
    simp only [he,cond_true] at h
    obtain ⟨D,D1,D2,D3,D4⟩:=ih (y::D0) h (by
     intro z hz cz
     rcases List.mem_cons.1 hz with rfl|hz
     ·unfold rG at he
      obtain ⟨ed,Nk,hb⟩:=List.any_eq_true.1 he
      simp only [Bool.and_eq_true,nb] at hb
      exact ⟨p,XQ,ed,by simpa using Nk,hb.1,by simp [(aU _ _).1 hb.2]⟩
     ·obtain ⟨q,hq,ed,h1,h2,h3⟩:=h0 z hz cz
      exact ⟨q,hq,ed,h1,h2,by simp [h3]⟩)
    refine ⟨D,fun z hz=>D1 z (by simp [hz]),fun z hz=> ?_,D3,fun z hz Ut=> ?_⟩
    ·rcases D2 z hz with h1|h1
     ·rcases List.mem_cons.1 h1 with h1|h1
      ·exact .inr (by simp [h1])
      ·exact .inl h1
     ·exact .inr (by simp [h1])
    ·rcases List.mem_cons.1 hz with rfl|hz
     ·exact absurd (D1 z (by simp)) Ut
     ·exact D4 z hz Ut
   |false=>
    simp only [he,cond_false,Bool.and_eq_true,Bool.or_eq_true,Bool.not_eq_true'] at h
    obtain ⟨⟨h1,h2⟩,h3⟩:=h
    obtain ⟨D,D1,D2,D3,D4⟩:=ih D0 h3 h0
    refine ⟨D,D1,fun z hz=>(D2 z hz).imp id (fun h=>by simp [h]),D3,fun z hz Ut=> ?_⟩
    rcases List.mem_cons.1 hz with rfl|hz
    ·refine ⟨p,XQ,qx h1,fun hl hs=> ?_⟩
     rcases h2 with ((h2|h2)|h2)|h2
     ·rw [hl] at h2;cases h2
     ·simp [h2]
     ·rw [hs] at h2;cases h2
     ·simp [h2]
    ·exact D4 z hz Ut
def aW.outs (Z:aW) (bs:List Nat):aW:={Z with In:=fun b=>Z.In b∧b∉bs,Pr:=fun b=>Z.Pr b∧b∉bs}
theorem bj.u7 {Z Z':aW} {e:Env} {st:St} {a:Act} {w:World} (h:bj c Z e st a w) (hI: ∀b,Z.In b→Z'.In b) (hP: ∀b,Z.Pr b→Z'.Pr b) (h1:Z'.bt=Z.bt) (h2:Z'.bF=Z.bF) (h3:Z'.T=Z.T) (h4:Z'.RN=Z.RN):bj c Z' e st a w:=by
 refine ⟨by rw [h1,h2,h3];exact h.defers,h.size,h.m,h.key,h.nodup,fun t=> ?_,h.root,fun f o ho=> ?_,h.bb,h.bf,h.ff,h.gE,fun b hb=>hI b (h.bC b hb)⟩
 ·have hs:=h.slot t
  generalize ah st.fr t=s at hs
  cases s<;>simp only [bp] at hs⊢ <;>first|exact hs|skip
  exact ⟨⟨hs.1.1,fun hp=>by rw [h1,h3];exact hs.1.2 hp⟩,⟨by rcases hs.2.bC with ⟨x,y⟩|x;exact .inl ⟨by rw [h1];exact x,hP _ y⟩;exact .inr (hI _ x),hs.2.obj,hs.2.free⟩⟩
 ·obtain ⟨I,cells,g1,g2,g3,g4,g5⟩:=(h.dn f o ho).row
  refine ⟨I,cells,g1,g2,g3,g4,fun aN hb=> ?_⟩
  obtain ⟨k1,k2,k3⟩:=g5 aN hb
  refine ⟨?_,k2,fun hc hz j hj=>k3 (by have hc:f∈Z'.bF:=hc;rw [h2] at hc;exact hc) hz j hj⟩
  rcases k1 with ⟨x,y⟩|x
  ·exact .inl ⟨by rw [h2];exact x,hP _ y⟩
  ·exact .inr (hI _ x)
theorem bj.narrow {e:Env} {st:St} {a:Act} {w w':World} {bs:List Nat} (h:bj c (Z.outs bs) e st a w) (g:cb w w') (hs:w.heap.size<w'.heap.size):bj c (Z.outs (w.heap.size::bs)) e st a w':=by
 have h':=h.grow g
 have q9: ∀b,b<w.heap.size→(Z.outs bs).In b→(Z.outs (w.heap.size::bs)).In b:=fun b hb hi=>⟨hi.1,by simp only [List.mem_cons,not_or];exact ⟨by omega,hi.2⟩⟩
 have J0: ∀b,b<w.heap.size→(Z.outs bs).Pr b→(Z.outs (w.heap.size::bs)).Pr b:=fun b hb hi=>⟨hi.1,by simp only [List.mem_cons,not_or];exact ⟨by omega,hi.2⟩⟩
 refine ⟨h'.defers,h'.size,h'.m,h'.key,h'.nodup,fun t=> ?_,h'.root,fun f o ho=> ?_,h'.bb,h'.bf,h'.ff,h'.gE,fun b hb=> ?_⟩
 ·have hs:=h.slot t
  have pg:=h'.slot t
  generalize ah st.fr t=s at hs pg
  cases s<;>simp only [bp] at hs pg⊢ <;>first|exact pg|skip
  obtain ⟨o2,k1,_⟩:=hs.2.obj
  have hl:=aO k1
  exact ⟨pg.1,⟨by rcases pg.2.bC with ⟨x,y⟩|x;exact .inl ⟨x,J0 _ hl y⟩;exact .inr (q9 _ hl x),pg.2.obj,pg.2.free⟩⟩
 ·obtain ⟨I,cells,g1,g2,g3,g4,g5⟩:=(h'.dn f o ho).row
  refine ⟨I,cells,g1,g2,g3,g4,fun aN hb=> ?_⟩
  obtain ⟨k1,k2,k3⟩:=g5 aN hb
  refine ⟨?_,k2,k3⟩
  have hl:aN<w.heap.size:=by
   obtain ⟨I',A6,l1,l2,l3,l4,l5⟩:=(h.dn f o ho).row
   rcases l3.2 with ⟨hv,_⟩|⟨gg,cap,dN,hv,_,hg,_⟩
   ·rw [hv] at hb;simp [Value.ownBlock] at hb
   ·rw [hv] at hb
    simp only [Value.ownBlock,Option.some.injEq] at hb
    have:=aO hg
    omega
  rcases k1 with ⟨x,y⟩|x
  ·exact .inl ⟨x,J0 _ hl y⟩
  ·exact .inr (q9 _ hl x)
 ·refine ⟨(h.bC b (by omega)).1,?_⟩
  simp only [List.mem_cons,not_or]
  exact ⟨by omega,(h.bC b (by omega)).2⟩
def Nl (b:Nat):Value:= .pointer (some ⟨b,0,none⟩)
def nd (ops:Array Oper) (i:Nat):Option Nat:=match ops[i]? with
 |some o=>o.dst
 |none=>none
def mC (ops:Array Oper):List (Nat×Nat)→Act→Act
 |[],a=>a
 |p::r,a=>(mC ops r a).put (nd ops p.1) (Nl p.2)
structure Nn (c:Ctx) (Z:aW) (ops:Array Oper) (e:Env) (w:World) (p:Nat×Nat):Prop where
 row: ∃o t I d arr T,ops[p.1]? =some o∧Cm o=true∧o.op= .alloc t∧c.tv t=some I∧o.dst=some d∧w.heap[p.2]? =some (.cells arr T (0,0))∧ ∀e':Env,al e' arr.toList I.zero
 free: ∀off,e.φ p.2 off=none
 bC:Z.In p.2
theorem qy {o:Oper} (h:Cm o=true): ∃t d,o.op= .alloc t∧o.dst=some d∧o.guard=none∧ ∀e∈o.after,Region.binds .any e=false:=by
 unfold Cm at h
 split at h
 ·rename_i t d h1 h2 h3
  refine ⟨t,d,h1,h2,h3,fun e he=> ?_⟩
  have:=List.all_eq_true.1 h e (by simpa using he)
  simpa [nb] using this
 ·cases h
theorem E9 {t:TypeId} {I:TI} (hI:c.tv t=some I) (hT:fc P c.ti): ∃i z,P.info? t=some i∧i.zero=some z∧ ∀e:Env,al e z.cells.toList I.zero:=by
 obtain ⟨iN,hc⟩:=bq hI
 obtain ⟨d,i,h1,h2,h3,h4⟩:=hT t I iN
 suffices hz: ∃z,i.zero=some z∧ ∀e:Env,al e z.cells.toList I.zero by
  obtain ⟨z,h5,h6⟩:=hz
  exact ⟨i,z,h2,h5,h6⟩
 cases d<;>simp only [kI] at h4
 case struct fs=>obtain ⟨_,_,_,_,_,_,cs,hz,hl,_⟩:=h4;exact ⟨_,hz,fun e=>by simpa [Value.cells] using fe hl⟩
 case tuple ts=>exact absurd hc h4.2.1
 case slice el=>obtain ⟨_,_,_,_,_,hz,hl,_⟩:=h4;exact ⟨_,hz,fun e=>by rw [hl];exact ⟨[.slice none 0 0],[],rfl,rfl,rfl⟩⟩
 case array n el=>obtain ⟨_,_,_,_,_,_,_,hl,hz⟩:=h4;exact ⟨_,hz,fun e=>by rw [hl];exact ⟨aV ez.zero,[],by simp [Value.cells],rfl,rfl⟩⟩
 case bool=>obtain ⟨_,_,_,_,hl,hz⟩:=h4;exact ⟨_,hz,fun e=>by rw [hl];exact ⟨[.bool false],[],rfl,⟨rfl,.b _⟩,rfl⟩⟩
 case int k=>obtain ⟨_,_,_,_,hl,hz⟩:=h4;exact ⟨_,hz,fun e=>by rw [hl];exact ⟨[.int k 0],[],rfl,⟨rfl,.i _ _⟩,rfl⟩⟩
 case string=>
  obtain ⟨_,_,_,_,hl,b,hz,hb⟩:=h4
  refine ⟨_,hz,fun e=>by rw [hl];refine ⟨[.string b],[],rfl,⟨rfl,?_⟩,rfl⟩;rw [←hb];exact .s b⟩
 all_goals
  obtain ⟨_,_,_,_,v,hz,hv,hl⟩:=h4
  refine ⟨v,hz,fun e=> ?_⟩
  have:v.cells.toList=[v]:=by cases v<;>simp_all [Value.cells,Value.oneCell']
  rw [this];exact fe hl
theorem u9 {o:Oper} (hs: ∀cs b,o.op≠ .select cs b) (a:Act): ∀(pd:List (Nat×Nat)),(∀p∈pd,∀d,nd ops p.1=some d→d∉o.looksAt ops)→
 execOp (mC ops pd a).eval o=execOp a.eval o∧Region.wanted o (yielded ops (mC ops pd a).tmps)=Region.wanted o (yielded ops a.tmps)
 |[],_=>⟨rfl,rfl⟩
 |p::r,h=>by
  obtain ⟨h1,h2⟩:=u9 hs a r (fun q hq=>h q (by simp [hq]))
  have hp:=h p (by simp)
  exact ⟨(execOp_put o hs _ _ _ hp).trans h1,(wanted_put o _ _ _ hp).trans h2⟩
theorem sS (a:Act) (y:Option Nat) (v:Value): ∀(pd:List (Nat×Nat)),(∀p∈pd,∀d,nd ops p.1=some d→y≠some d)→(mC ops pd a).put y v=mC ops pd (a.put y v)
 |[],_=>rfl
 |p::r,h=>by
  simp only [mC]
  rw [Act.put_comm _ _ _ (fun d hd=>h p (by simp) d hd),sS a y v r (fun q hq=>h q (by simp [hq]))]
theorem Np {j:Nat} {oj:Oper} {x:Option Nat} {v:Value} (hj:ops[j]? =some oj) (h1: ∀d,x=some d→d∉oj.looksAt ops) (h2: ∀d,x=some d→oj.dst≠some d)
 (Rs: ∀cs b,oj.op≠ .select cs b) {K:Act→World→Prop} {a:Act} {w:World} (h:wpOp P ops (na N) j K a w):
 wpOp P ops (na N) j (fun a' w'=> ∃S8,a'=S8.put x v∧K S8 w') (a.put x v) w:=by
 unfold wpOp at *
 simp only [hj] at *
 rw [wanted_put oj a x v h1]
 split
 ·rename_i hw
  simp only [hw,if_true] at h
  rcases h with h|⟨S5,KW⟩
  case inr=>obtain ⟨_,_,hf⟩:=KW;exact hf.elim
  refine .inl ?_
  unfold Oper.wp at *
  rw [execOp_put oj Rs a x v h1]
  generalize (execOp a.eval oj).run P w=r at *
  cases r with
  |ok n w'=>
   cases n<;>simp only [Oper.upon] at h⊢
   case value u=>exact ⟨_,Act.put_comm a v u h2,h⟩
   case skip=>exact ⟨_,Act.put_comm a v undef h2,h⟩
   case defer d=>
    refine ⟨{a.put oj.dst undef with defers:=d::(a.put oj.dst undef).defers},?_,by simpa [Act.put_defers] using h⟩
    have:=Act.put_comm a v undef h2
    cases x<;>cases hd:oj.dst<;>simp_all [Act.put]
   case enter f args=>
    refine Calls.mono h fun y tX he=> ?_
    cases y with
    |returned u=>exact ⟨_,Act.put_comm a v u h2,he⟩
    |panicked c=>exact he
    |outgrown=>exact he
   case row row args=>exact Rows.mono h fun u tX he=>⟨_,Act.put_comm a v u h2,he⟩
  |halt y w'=>
   cases y<;>simp only [Oper.upon] at h⊢
   case panic u=>exact h
 ·rename_i hw
  simp only [hw] at h
  exact ⟨_,Act.put_comm a v undef h2,h⟩
theorem GC {j:Nat} {oj:Oper} (hj:ops[j]? =some oj) (Rs: ∀cs b,oj.op≠ .select cs b) {K:Act→World→Prop} {a:Act} {w:World} (h:wpOp P ops (na N) j K a w): ∀(pd:List (Nat×Nat)),
 (∀p∈pd,∀d,nd ops p.1=some d→d∉oj.looksAt ops∧oj.dst≠some d)→wpOp P ops (na N) j (fun a' w'=> ∃S8,a'=mC ops pd S8∧K S8 w') (mC ops pd a) w
 |[],_=>wpOp_mono (fun a' w' hk=>⟨a',rfl,hk⟩) h
 |p::r,hp=>by
  have h1:=GC hj Rs h r (fun q hq=>hp q (by simp [hq]))
  have h2:=Np (v:=Nl p.2) hj (fun d hd=>(hp p (by simp) d hd).1) (fun d hd=>(hp p (by simp) d hd).2) Rs h1
  refine wpOp_mono ?_ h2
  rintro a' w' ⟨a1,rfl,a2,rfl,hk⟩
  exact ⟨a2,rfl,hk⟩
theorem ui: ∀{l m:List Nat},l.Nodup→(∀x∈l,x∈m)→l.length≤m.length
 |[],m,_,_=>Nat.zero_le _
 |x::l,m,hn,hs=>by
  have hn:=List.nodup_cons.1 hn
  have h1:l.length≤(m.erase x).length:=ui hn.2 fun y hy=>(List.mem_erase_of_ne (fun he=>hn.1 (by rw [←he];exact hy))).2 (hs y (by simp [hy]))
  have h2:=List.length_erase_of_mem (hs x (by simp))
  have h3:0<m.length:=List.length_pos_of_mem (hs x (by simp))
  simp only [List.length_cons];omega
theorem CX {x b:Nat} {o:Oper} (XR:nd ops x=o.dst) (a:Act) (pr:List (Nat×Nat)): ∀(pl:List (Nat×Nat)),(∀p∈pl++pr,∀dd,nd ops p.1=some dd→o.dst≠some dd)→mC ops (pl++(x,b)::pr) a=mC ops (pl++pr) (a.put o.dst (Nl b))
 |[],h=>by
  simp only [List.nil_append,mC,XR]
  exact sS a o.dst (Nl b) pr (fun p hp=>h p (by simp [hp]))
 |q::pl,h=>by
  simp only [List.cons_append,mC]
  rw [CX XR a pr pl (fun p hp=>h p (by simp only [List.cons_append,List.mem_cons];exact .inr hp))]
theorem KY.congr {listed:Array Bool} {l l':List Nat} (h:KY ops listed l) (he: ∀i,i∈l↔i∈l'):KY ops listed l':=⟨h.size,fun i hi=>by rw [h.mem i hi,he]⟩
theorem CY {o:Oper}: ∀(rest D:List Nat),kF c ops.toList o D rest=true→ ∀y∈rest,∀p,ops[y]? =some p→Cm p=true→o.apart ops p=true:=by
 intro rest
 induction rest with
 |nil=>intro D _ y hy;cases hy
 |cons z rest ih=>
  intro D h y hy p hp vT
  simp only [kF] at h
  cases hz:ops.toList[z]? with
  |none=>simp [hz] at h
  |some q=>
   simp only [hz] at h
   cases he:rG q (aT D) with
   |true=>
    simp only [he,cond_true] at h
    rcases List.mem_cons.1 hy with rfl|hy
    ·exfalso
     have Rk:ops[y]? =some q:=by simpa using hz
     rw [Rk] at hp;cases hp
     obtain ⟨_,_,_,_,_,cz⟩:=qy vT
     unfold rG at he
     obtain ⟨ed,Nk,hb⟩:=List.any_eq_true.1 he
     simp only [Bool.and_eq_true,nb] at hb
     rw [cz ed (by simpa using Nk)] at hb
     exact absurd hb.1 (by simp)
    ·exact ih _ h y hy p hp vT
   |false=>
    simp only [he,cond_false,Bool.and_eq_true] at h
    rcases List.mem_cons.1 hy with rfl|hy
    ·have Rk:ops[y]? =some q:=by simpa using hz
     rw [Rk] at hp;cases hp
     exact qx h.1.1
    ·exact ih _ h.2 y hy p hp vT
theorem xm {o p:Oper} {y:Nat} (hp:ops[y]? =some p) (h:p.apart ops o=true∨o.apart ops p=true): ∀d,nd ops y=some d→d∉o.looksAt ops∧o.dst≠some d:=by
 intro d hd
 have hd:p.dst=some d:=by simpa [nd,hp] using hd
 rcases h with h|h
 ·obtain ⟨h1,h2,h3⟩:=Oper.apart_spec h
  exact ⟨h1 d hd,h2 d hd⟩
 ·obtain ⟨h1,h2,h3⟩:=Oper.apart_spec h
  exact ⟨h3 d hd,fun he=>h2 d he hd⟩
theorem Nn.later {Z:aW} {bs:List Nat} {e e':Env} {w w':World} {p:Nat×Nat} (h:Nn c Z ops e w p) (hb:p.2∈bs) (t:Trans (Z.outs bs).In e.φ w e'.φ w'):Nn c Z ops e' w' p:=by
 obtain ⟨o,ty,I,d,arr,T,h1,h2,h3,h4,h5,h6,h7⟩:=h.row
 have hn: ¬(Z.outs bs).In p.2:=fun hh=>hh.2 hb
 exact ⟨⟨o,ty,I,d,arr,T,h1,h2,h3,h4,h5,by rw [t.heap _ hn (aO h6)];exact h6,h7⟩,fun off=>by rw [t.free _ off hn];exact h.free off,h.bC⟩
theorem Trans.wide {Z Z':Nat→Prop} {φ φ':Ph} {w w':World} (t:Trans Z φ w φ' w') (h: ∀b,Z b→Z' b):Trans Z' φ w φ' w':=
 ⟨t.ph,fun b hb hl=>t.heap b (fun hz=>hb (h b hz)) hl,fun b o hb=>t.free b o (fun hz=>hb (h b hz)),t.size,t.rest⟩
theorem Nq (hG:Good P c) (CW: ∀(j:Nat) (o:Oper) cs b,ops[j]? =some o→o.op≠ .select cs b) {φ0:Ph} {w0:World} (hN: ∀a' w',Out c Z K r φ0 w0 a' w'→N a' w'):
 ∀(m:Nat) (rest pre:List Nat) (pd:List (Nat×Nat)) (l:List Oper) (listed:Array Bool) (e:Env) (st:St) (a:Act) (w:World),2 *rest.length-pd.length≤m→bj c (Z.outs (pd.map (·.2))) e st a w→nN c ops.toList l st K=some r→Trans Z.In φ0 w0 e.φ w→jq ops.toList rest=some l→
  mR c ops.toList pre rest=true→KY ops listed (pd.map (·.1)++pre)→(∀i,i<ops.size→i∈pre∨i∈rest)→(∀i∈pre,i<ops.size)→(∀p∈pd,p.1∈rest)→(pd.map (·.1)).Nodup→(pd.map (·.2)).Nodup→(∀p∈pd,Nn c Z ops e w p)→
  pd.length≤rest.length→yS P c ops N e.φ (rest.length-pd.length) listed (mC ops pd a) w:=by
 intro m
 induction m with
 |zero=>
  intro rest pre pd l listed e st a w hm h hK ht hp hd hL kL KZ J0 B7 Ey IU hle
  cases rest with
  |cons x rest=>simp only [List.length_cons] at hm hle;omega
  |nil=>
   cases pd with
   |cons p pd=>simp at hle
   |nil=>
    cases hp
    have h':bj c Z e st a w:=h.u7 (fun b hb=>hb.1) (fun b hb=>hb.1) rfl rfl rfl rfl
    refine ⟨?_,hN a w ⟨e,st,h',ht,hK⟩⟩
    cases hr:Region.ready .any ops listed with
    |nil=>rfl
    |cons i is=>
     have hi:i∈Region.ready .any ops listed:=by rw [hr];simp
     obtain ⟨h1,o,ho,_⟩:=mem_ready.1 hi
     have dE:i<ops.size:=(Array.getElem?_eq_some_iff.1 ho).1
     exact absurd (by simpa using (kL i dE).resolve_right (by simp)) ((hL.sR dE).1 h1)
 |succ m Uu=>
  intro rest pre pd l listed e st a w hm h hK ht hp hd hL kL KZ J0 B7 Ey IU hle
  cases rest with
  |nil=>
   cases pd with
   |cons p pd=>simp at hle
   |nil=>exact Uu [] pre [] l listed e st a w (by simp) h hK ht hp hd hL kL KZ J0 B7 Ey IU hle
  |cons x rest=>
   simp only [jq] at hp
   cases Ru:ops.toList[x]? with
   |none=>simp [Ru] at hp
   |some o=>
    cases Mo:jq ops.toList rest with
    |none=>simp [Ru,Mo] at hp
    |some l'=>
     simp only [Ru,Mo,Option.some.injEq] at hp
     subst hp
     have hx:ops[x]? =some o:=by simpa using Ru
     have Qc:x<ops.size:=(Array.getElem?_eq_some_iff.1 hx).1
     have ZM:=hd
     simp only [mR,Ru] at hd
     simp only [Bool.and_eq_true,Bool.not_eq_true'] at hd
     obtain ⟨⟨⟨⟨d1,d2⟩,d3⟩,d4⟩,d5⟩:=hd
     have OL:x∉pre:=by rw [←aU,d2];simp
     have VU:x∉rest:=by rw [←aU,d3];simp
     have GD: ∀i,i<ops.size→i∈x::pre∨i∈rest:=by
      intro i hi
      rcases kL i hi with h1|h1
      ·exact .inl (by simp [h1])
      ·rcases List.mem_cons.1 h1 with h1|h1
       ·exact .inl (by simp [h1])
       ·exact .inr h1
     have OM: ∀i∈x::pre,i<ops.size:=by
      intro i hi
      rcases List.mem_cons.1 hi with rfl|hi
      ·exact Qc
      ·exact KZ i hi
     have Qd:=hK
     simp only [nN] at hK
     have K0: ∀p∈pd,∃q,ops[p.1]? =some q∧Cm q=true:=fun p hp=>by
      obtain ⟨q,_,_,_,_,_,h1,h2,_⟩:=(IU p hp).row
      exact ⟨q,h1,h2⟩
     unfold F4 at hK
     obtain ⟨bc,go,h',hK,hw⟩:=CL h hK
     have ON: ∀cs b,o.op≠ .select cs b:=fun cs b=>CW x o cs b hx
     by_cases Uv:x∈pd.map (·.1)
     ·
      obtain ⟨⟨x',b⟩,Uw,VV⟩:=List.mem_map.1 Uv
      have VV:x'=x:=VV
      subst VV
      obtain ⟨o',t,I,d,arr,T,k1,k2,k3,k4,k5,k6,k7⟩:=(IU _ Uw).row
      rw [hx] at k1;cases k1
      obtain ⟨_,_,_,_,ZN,cz⟩:=qy k2
      have Nr:go=true:=by
       rw [←hw];simp [Region.wanted,ZN]
      subst Nr
      have Cq:(iT o&&!fD c o)=false:=by simp [iT,k3]
      simp only [Cq,cond_false] at d4
      obtain ⟨pl,pr,rfl⟩:=List.append_of_mem Uw
      have ZO:b∉(pl++pr).map (·.2):=by
       have:((pl++(x',b)::pr).map (·.2)).Nodup:=Ey
       simp only [List.map_append,List.map_cons,List.nodup_append,List.nodup_cons,List.mem_cons] at this
       simp only [List.map_append,List.mem_append,not_or]
       exact ⟨fun hm=>this.2.2 b hm b (by simp) rfl,this.2.1.1⟩
      have XS:x'∉(pl++pr).map (·.1):=by
       have:((pl++(x',b)::pr).map (·.1)).Nodup:=B7
       simp only [List.map_append,List.map_cons,List.nodup_append,List.nodup_cons,List.mem_cons] at this
       simp only [List.map_append,List.mem_append,not_or]
       exact ⟨fun hm=>this.2.2 x' hm x' (by simp) rfl,this.2.1.1⟩
      have CZ: ∀p∈pl++pr,p∈pl++(x',b)::pr:=fun p hp=>by
       simp only [List.mem_append,List.mem_cons] at hp⊢
       rcases hp with hp|hp
       ·exact .inl hp
       ·exact .inr (.inr hp)
      have iX:bj c (Z.outs ((pl++pr).map (·.2))) e bc a w:=by
       refine h'.u7 (fun u hu=>⟨hu.1,fun hm=>hu.2 ?_⟩) (fun u hu=>⟨hu.1,fun hm=>hu.2 ?_⟩) rfl rfl rfl rfl<;>
       ·obtain ⟨p,hp,rfl⟩:=List.mem_map.1 hm
        exact List.mem_map.2 ⟨p,CZ p hp,rfl⟩
      have Ns:b∈(pl++(x',b)::pr).map (·.2):=by simp
      have kb:iV (Z.outs ((pl++pr).map (·.2))) e w bc (Nl b) (.box I.zero):=by
       refine ⟨b,by rw [mw (k7 e).oO];rfl,⟨⟨(IU _ Uw).bC,ZO⟩,⟨_,k6,rfl,k7 e⟩,(IU _ Uw).free⟩,fun t' cT rL qX=> ?_,fun f o' rJ qX=> ?_⟩
       ·have hs:=h'.slot t'
        rw [rL] at hs
        rcases hs.2.bC with ⟨_,u⟩|u
        ·exact u.2 (by rw [qX];exact Ns)
        ·exact u.2 (by rw [qX];exact Ns)
       ·obtain ⟨I',cells,g1,g2,g3,g4,g5⟩:=(h'.dn f o' rJ).row
        rcases (g5 b qX).1 with ⟨_,u⟩|u
        ·exact u.2 Ns
        ·exact u.2 Ns
      simp only [cond_true,Ra,k3,k4] at hK
      obtain ⟨e2,ch,j1,j2,j3⟩:=bK iX kb hK
      have Qe:mC ops (pl++(x',b)::pr) a=mC ops (pl++pr) (a.put o.dst (Nl b)):=by
       have uc: ∀p∈pl++pr,∀dd,nd ops p.1=some dd→o.dst≠some dd:=by
        intro p hp dd ZP
        obtain ⟨q,hq,vT⟩:=K0 p (CZ p hp)
        have Fa:p.1∈rest:=by
         rcases List.mem_cons.1 (J0 p (CZ p hp)) with he|he
         ·exact absurd (List.mem_map.2 ⟨p,hp,he⟩) XS
         ·exact he
        have:=List.all_eq_true.1 d4 p.1 Fa
        have Qf:ops.toList[p.1]? =some q:=by simpa using hq
        simp only [Qf,vT,cond_true,Bool.and_eq_true] at this
        exact (xm hq (.inl (qx this.1)) dd ZP).2
       exact CX (by simp [nd,hx]) a pr pl uc
      rw [Qe,←j3]
      have hlen:(x'::rest).length-(pl++(x',b)::pr).length=rest.length-(pl++pr).length:=by simp only [List.length_cons,List.length_append];omega
      rw [hlen]
      refine Uu rest (x'::pre) (pl++pr) l' listed e2 ch _ w ?_ j1 j2 (by rw [j3];exact ht) Mo d5 ?_ GD OM ?_ ?_ ?_ ?_ ?_
      ·simp only [List.length_cons,List.length_append] at hm⊢;omega
      ·refine hL.congr (fun i=> ?_)
       simp only [List.map_append,List.map_cons,List.mem_append,List.mem_cons]
       constructor
       ·rintro ((h1|h1|h1)|h1)
        ·exact .inl (.inl h1)
        ·exact .inr (.inl h1)
        ·exact .inl (.inr h1)
        ·exact .inr (.inr h1)
       ·rintro ((h1|h1)|h1|h1)
        ·exact .inl (.inl h1)
        ·exact .inl (.inr (.inr h1))
        ·exact .inl (.inr (.inl h1))
        ·exact .inr h1
      ·intro p hp
       rcases List.mem_cons.1 (J0 p (CZ p hp)) with he|he
       ·exact absurd (List.mem_map.2 ⟨p,hp,he⟩) XS
       ·exact he
      ·have:((pl++(x',b)::pr).map (·.1)).Nodup:=B7
       refine List.Nodup.sublist ?_ this
       exact List.Sublist.map _ (List.Sublist.append_left (List.sublist_cons_self _ _) pl)
      ·have:((pl++(x',b)::pr).map (·.2)).Nodup:=Ey
       refine List.Nodup.sublist ?_ this
       exact List.Sublist.map _ (List.Sublist.append_left (List.sublist_cons_self _ _) pl)
      ·intro p hp
       obtain ⟨q1,q2,q3⟩:=IU p (CZ p hp)
       exact ⟨q1,fun off=>by rw [j3];exact q2 off,q3⟩
      ·simp only [List.length_cons,List.length_append] at hle⊢;omega
     ·have Fa: ∀p∈pd,p.1∈rest:=fun p hp=>by
       rcases List.mem_cons.1 (J0 p hp) with he|he
       ·exact absurd (List.mem_map.2 ⟨p,hp,he⟩) Uv
       ·exact he
      have Sj:pd.length≤rest.length:=by
       have h1:(pd.map (·.1)).length≤rest.length:=ui B7 (fun i hi=>by obtain ⟨p,hp,rfl⟩:=List.mem_map.1 hi;exact Fa p hp)
       simpa using h1
      have S9:(x::rest).length-pd.length=(rest.length-pd.length)+1:=by simp only [List.length_cons];omega
      rw [S9]
      have PZ:x∉pd.map (·.1)++pre:=by simp only [List.mem_append,not_or];exact ⟨Uv,OL⟩
      have Bu:x∈Region.ready .any ops listed:=by
       refine mem_ready.2 ⟨(hL.sR Qc).2 PZ,o,hx,fun ed Nk hb=> ?_⟩
       have:=List.all_eq_true.1 d1 ed (by simpa using Nk)
       simp only [nb,hb,Bool.not_true,Bool.false_or] at this
       have hm:=(aU _ _).1 this
       exact (hL.done (KZ _ hm)).2 (by simp [hm])
      have next: ∀(e':Env) (ch:St) (a':Act) (w':World),bj c (Z.outs (pd.map (·.2))) e' ch a' w'→Trans (Z.outs (pd.map (·.2))).In e.φ w e'.φ w'→nN c ops.toList l' ch K=some r→yS P c ops N e.φ (rest.length-pd.length) (listed.setIfInBounds x true) (mC ops pd a') w':=by
       intro e' ch a' w' h1 t1 eX
       refine HW t1.ph _ _ _ _ ?_
       refine Uu rest (x::pre) pd l' _ e' ch a' w' ?_ h1 eX (ht.trans (t1.wide fun b hb=>hb.1)) Mo d5 ((hL.set Qc).congr fun i=> ?_) GD OM Fa B7 Ey (fun p hp=>(IU p hp).later (List.mem_map.2 ⟨p,hp,rfl⟩) t1) Sj
       ·simp only [List.length_cons] at hm;omega
       ·simp only [List.mem_cons,List.mem_append]
        constructor
        ·rintro (h1|h1|h1)
         ·exact .inr (.inl h1)
         ·exact .inl h1
         ·exact .inr (.inr h1)
        ·rintro (h1|h1|h1)
         ·exact .inr (.inl h1)
         ·exact .inl h1
         ·exact .inr (.inr h1)
      cases Cq:iT o&&!fD c o with
      |true=>
       simp only [Cq,cond_true] at d4
       have uc: ∀p∈pd,∀dd,nd ops p.1=some dd→dd∉o.looksAt ops∧o.dst≠some dd:=by
        intro p hp
        obtain ⟨q,hq,vT⟩:=K0 p hp
        exact xm hq (.inr (CY rest [x] d4 p.1 (Fa p hp) q hq vT))
       obtain ⟨hex,Qb⟩:=u9 ON a pd (fun p hp d hd=>(uc p hp d hd).1)
       obtain ⟨D,D1,D2,D3,D4⟩:=yU rest [x] d4 (fun y hy cz=>absurd (by simpa using hy) cz)
       have lN: ∀j oj,ops[j]? =some oj→j∉D→j≠x→listed.getD j true=false→o.apart ops oj=true∧(fb c o=true→still c o=false→oa c o ops j=true):=by
        intro j oj OJ Us ZQ Nj
        have Ta:j<ops.size:=(Array.getElem?_eq_some_iff.1 OJ).1
        have ZR:j∈rest:=by
         rcases GD j Ta with h1|h1
         ·rcases List.mem_cons.1 h1 with h1|h1
          ·exact absurd h1 ZQ
          ·exact absurd (by simp [h1]) ((hL.sR Ta).1 Nj)
         ·exact h1
        obtain ⟨p,Px,DZ,ZS⟩:=D4 j ZR Us
        rw [OJ] at Px
        cases Px
        exact ⟨DZ,fun hl hs=>by simp [oa,OJ,ZS hl hs]⟩
       have yT: ∀d∈D,listed.getD d false=false:=by
        have VW: ∀p∈pd,p.1∉D:=by
         intro p hp ZT
         obtain ⟨q,hq,vT⟩:=K0 p hp
         obtain ⟨ed,Nk,hb,_⟩:=D3 p.1 q ZT (fun he=>Uv (List.mem_map.2 ⟨p,hp,he⟩)) hq
         obtain ⟨_,_,_,_,_,cz⟩:=qy vT
         rw [cz ed Nk] at hb;cases hb
        intro d hd
        have RO:d∉pd.map (·.1)++pre:=by
         simp only [List.mem_append,not_or]
         constructor
         ·intro hm
          obtain ⟨p,hp,rfl⟩:=List.mem_map.1 hm
          exact VW p hp hd
         ·rcases D2 d hd with h1|h1
          ·have h1:d=x:=by simpa using h1
           rw [h1];exact OL
          ·exact fun hp=>pF rest (x::pre) d5 d h1 (by simp [hp])
        by_cases Up:d<ops.size
        ·cases hg:listed.getD d false with
         |false=>rfl
         |true=>exact absurd ((hL.done Up).1 hg) RO
        ·have hl: ¬d<listed.size:=by rw [hL.size];exact Up
         simp [hl]
       cases go with
       |true=>
        simp only [cond_true] at hK
        obtain ⟨v,hv,e2,ch,k1,k2,k3⟩:=(EX (Q:=na N) hG h' hK).Vx (by simp only [Bool.and_eq_true] at Cq;exact Cq.1) (by simp only [Bool.and_eq_true,Bool.not_eq_true'] at Cq;exact Cq.2)
        refine xl D3 hx CW (rest.length-pd.length) listed _ w lN yT Bu (.inl ⟨by rw [Qb];exact hw,fun w' hg=>by rw [hex];exact hv w' hg⟩) h.gE ?_
        rw [sS a o.dst v pd (fun p hp d hd=>(uc p hp d hd).2)]
        exact next e2 ch _ w k1 k2 k3
       |false=>
        simp only [cond_false] at hK
        obtain ⟨e2,ch,k1,k2,k3⟩:=bK (v:=undef) (s:= .skip) h' ⟨rfl,trivial⟩ hK
        refine xl D3 hx CW (rest.length-pd.length) listed _ w lN yT Bu (.inr ⟨by rw [Qb];exact hw,rfl⟩) h.gE ?_
        rw [sS a o.dst undef pd (fun p hp d hd=>(uc p hp d hd).2)]
        exact next e2 ch _ w k1 (by rw [k3];exact .refl _ _ _) k2
      |false=>
       simp only [Cq,cond_false] at d4
       have uc: ∀p∈pd,∀dd,nd ops p.1=some dd→dd∉o.looksAt ops∧o.dst≠some dd:=by
        intro p hp
        obtain ⟨q,hq,vT⟩:=K0 p hp
        have:=List.all_eq_true.1 d4 p.1 (Fa p hp)
        have Qf:ops.toList[p.1]? =some q:=by simpa using hq
        simp only [Qf,vT,cond_true,Bool.and_eq_true] at this
        exact xm hq (.inl (qx this.1))
       refine ⟨fun IX=>(by rw [IX] at Bu;cases Bu),fun i hi=> ?_⟩
       obtain ⟨VX,oi,Nt,Qg⟩:=mem_ready.1 hi
       have Qh:i<ops.size:=(Array.getElem?_eq_some_iff.1 Nt).1
       have q9:=(hL.sR Qh).1 VX
       simp only [List.mem_append,not_or] at q9
       by_cases Rt:i=x
       ·subst Rt
        rw [hx] at Nt;cases Nt
        have iX:wpOp P ops (na N) i (fun a' w'=>(∀oi,oa c oi ops i=true→cM c oi w w')∧ ∃e2 ch,bj c (Z.outs (pd.map (·.2))) e2 ch a' w'∧Trans (Z.outs (pd.map (·.2))).In e.φ w e2.φ w'∧nN c ops.toList l' ch K=some r) a w:=by
         unfold wpOp
         simp only [hx]
         rw [hw]
         cases go with
         |true=>
          simp only [cond_true] at hK
          simp only [if_true]
          left
          have hd:=EX (Q:=na N) hG h' hK
          cases D7:Jk c o with
          |true=>
           simp only [Jk,Bool.or_eq_true] at D7
           refine Oper.wp_mono ?_ (hd.Vy D7)
           rintro a' w' ⟨hg,e2,ch,k1,k2,k3⟩
           exact ⟨fun _ _=>hg.for,e2,ch,k1,k2,k3⟩
          |false=>
           by_cases Hy: ∃oi,qU oi o=true
           ·obtain ⟨oi0,Hy⟩:=Hy
            refine Oper.wp_mono ?_ (SC (Q:=na N) hG h' hK Hy)
            rintro a' w' ⟨hg,e2,ch,k1,k2,k3⟩
            refine ⟨fun oi hh=> ?_,e2,ch,k1,k2,k3⟩
            have Nt:qU oi o=true:=by simpa [oa,hx,D7] using hh
            exact E8 Hy Nt hg
           ·refine Oper.wp_mono ?_ hd.wp
            rintro a' w' ⟨e2,ch,k1,k2,k3⟩
            exact ⟨fun oi hh=>absurd ⟨oi,by simpa [oa,hx,D7] using hh⟩ Hy,e2,ch,k1,k2,k3⟩
         |false=>
          simp only [cond_false] at hK
          simp only [Bool.false_eq_true,if_false]
          obtain ⟨e2,ch,k1,k2,k3⟩:=bK (v:=undef) (s:= .skip) h' ⟨rfl,trivial⟩ hK
          exact ⟨fun _ _=>(cb.refl w).for,e2,ch,k1,by rw [k3];exact .refl _ _ _,k2⟩
        refine wpOp_mono ?_ (GC hx ON iX pd uc)
        rintro a' w' ⟨a2,rfl,hg,e2,ch,k1,k2,k3⟩
        exact ⟨⟨hg,fun b o v hv=>k1.gE b o v (k2.ph b o v hv)⟩,next e2 ch a2 w' k1 k2 k3⟩
       ·have VY:i∈rest:=by
         rcases GD i Qh with h1|h1
         ·rcases List.mem_cons.1 h1 with h1|h1
          ·exact absurd h1 Rt
          ·exact absurd h1 q9.2
         ·exact h1
        have Fb:=List.all_eq_true.1 d4 i VY
        have VZ:ops.toList[i]? =some oi:=by simpa using Nt
        simp only [VZ] at Fb
        cases vT:Cm oi with
        |false=>
         exfalso
         simp only [vT,cond_false] at Fb
         unfold rG at Fb
         obtain ⟨ed,Nk,hb⟩:=List.any_eq_true.1 Fb
         simp only [Bool.and_eq_true,nb,Bool.or_eq_true,Bool.not_eq_true'] at hb
         obtain ⟨qn,nY⟩:=hb
         have C0:=Qg ed (by simpa using Nk) qn
         have EK:ed.on∉pd.map (·.1)++pre:=by
          rcases nY with nY|⟨nY,PL⟩
          ·rw [Nat.eq_of_beq_eq_true nY];exact PZ
          ·simp only [List.mem_append,not_or]
           refine ⟨fun hm=> ?_,fun hp=>pF rest (x::pre) d5 _ ((aU _ _).1 nY) (by simp [hp])⟩
           obtain ⟨p,hp,he⟩:=List.mem_map.1 hm
           obtain ⟨q,hq,ZU⟩:=K0 p hp
           have Qf:ops.toList[ed.on]? =some q:=by rw [←he];simpa using hq
           simp [RI,Qf,ZU] at PL
         by_cases my:ed.on<ops.size
         ·exact EK ((hL.done my).1 C0)
         ·have:listed.getD ed.on false=false:=by
           have hl: ¬ed.on<listed.size:=by rw [hL.size];exact my
           simp [hl]
          rw [this] at C0;cases C0
        |true=>
         obtain ⟨t,d,q1,q2,q3,q4⟩:=qy vT
         have hI: ∃I,c.tv t=some I:=by
          simp only [vT,cond_true,Bool.and_eq_true,RH,q1] at Fb
          cases ZV:c.tv t with
          |none=>rw [ZV] at Fb;exact absurd Fb.2 (by simp)
          |some I=>exact ⟨I,rfl⟩
         obtain ⟨I,hI⟩:=hI
         obtain ⟨inf,z,ZW,RQ,ZX⟩:=E9 hI hG.ti
         have hg:cb w (w.alloc (.cells z.cells t)):= .alloc w _ _
         unfold wpOp
         simp only [Nt]
         have Qb:Region.wanted oi (yielded ops (mC ops pd a).tmps)=true:=by simp [Region.wanted,q3]
         simp only [Qb,if_true]
         left
         have bx:(execOp (mC ops pd a).eval oi).run P w= .ok (.value (Nl w.heap.size)) (w.alloc (.cells z.cells t)):=by
          simp [execOp,q1,Instr.alloc,zeroValue,typeInfo,ZW,RQ,newVar,newRow,newObj,Sem.run,Nl]
         unfold Oper.wp
         rw [bx]
         simp only [Oper.upon]
         refine ⟨⟨fun _ _=>hg.for,(h.grow hg).gE⟩,?_⟩
         have kK:w.heap.size<(w.alloc (.cells z.cells t)).heap.size:=by simp
         have V0: ∀p∈pd,p.2<w.heap.size:=fun p hp=>by
          obtain ⟨_,_,_,_,_,_,_,_,_,_,_,k6,_⟩:=(IU p hp).row
          exact aO k6
         have Qe:(mC ops pd a).put oi.dst (Nl w.heap.size)=mC ops ((i,w.heap.size)::pd) a:=by simp [mC,nd,Nt]
         rw [Qe]
         have dE:pd.length<rest.length:=by
          have h1:(i::pd.map (·.1)).length≤rest.length:=by
           refine ui (List.nodup_cons.2 ⟨q9.1,B7⟩) ?_
           intro j hj
           rcases List.mem_cons.1 hj with rfl|hj
           ·exact VY
           ·obtain ⟨p,hp,rfl⟩:=List.mem_map.1 hj;exact Fa p hp
          simp only [List.length_cons,List.length_map] at h1;omega
         have q8:rest.length-pd.length=(x::rest).length-((i,w.heap.size)::pd).length:=by simp only [List.length_cons];omega
         rw [q8]
         refine Uu (x::rest) pre ((i,w.heap.size)::pd) (o::l') _ e st a _ ?_ (h.narrow hg kK) ?_ (ht.trans (hg.trans (fun b hb=>(h.bC b hb).1) _)) ?_ ZM ?_ kL KZ ?_ ?_ ?_ ?_ ?_
         ·simp only [List.length_cons] at hm⊢;omega
         ·exact Qd
         ·simp [jq,Ru,Mo]
         ·refine (hL.set Qh).congr (fun j=> ?_)
          simp
         ·intro p hp
          rcases List.mem_cons.1 hp with rfl|hp
          ·exact List.mem_cons_of_mem _ VY
          ·exact J0 p hp
         ·exact List.nodup_cons.2 ⟨q9.1,B7⟩
         ·refine List.nodup_cons.2 ⟨fun hm=> ?_,Ey⟩
          obtain ⟨p,hp,he⟩:=List.mem_map.1 hm
          have:=V0 p hp
          have he:p.2=w.heap.size:=he
          omega
         ·intro p hp
          rcases List.mem_cons.1 hp with rfl|hp
          ·refine ⟨⟨oi,t,I,d,z.cells,t,Nt,vT,q1,hI,q2,eR w _,ZX⟩,fun off=> ?_,(h.bC _ (Nat.le_refl _)).1⟩
           cases hp:e.φ w.heap.size off with
           |none=>rfl
           |some v=>
            have:=World.block_lt_of_cell? w _ (h.gE _ _ _ hp)
            simp at this
          ·obtain ⟨⟨o1,t1,I1,d1,V1,T1,k1,k2,k3,k4,k5,k6,k7⟩,q5,q6⟩:=IU p hp
           exact ⟨⟨o1,t1,I1,d1,V1,T1,k1,k2,k3,k4,k5,by rw [hg.nJ _ (aO k6)];exact k6,k7⟩,q5,q6⟩
         ·simp only [List.length_cons];omega
theorem C1 (hG:Good P c) {ops:Array Oper} {l:List Oper} {ord:List Nat} (hd:rH c ops ord=true) (hp:jq ops.toList ord=some l) {Z:aW} {e:Env} {st:St} {a:Act} {w:World} {R:Type} {K:St→Option R} {r:R} (h:bj c Z e st a w) (hK:nN c ops.toList l st K=some r):
 wpAny P .any ops (na fun a' w'=>Out c Z K r e.φ w a' w') ops.size (Array.replicate ops.size false) a {w with drawn:=w.drawn+1}:=by
 simp only [rH,Bool.and_eq_true] at hd
 obtain ⟨⟨⟨M3,Ue⟩,kL⟩,hd⟩:=hd
 have CW: ∀(j:Nat) (o:Oper) cs b,ops[j]? =some o→o.op≠ .select cs b:=by
  intro j o cs b ho he
  have:=List.all_eq_true.1 M3 o (List.mem_of_getElem? (by simpa using ho:ops.toList[j]? =some o))
  simp [he] at this
 have OO:cb w {w with drawn:=w.drawn+1}:=⟨Nat.le_refl _,fun _ _=>rfl,rfl,rfl,rfl,fun _=>rfl⟩
 ·refine KV (c:=c) (φ:=e.φ) _ _ _ _ ?_
  have hlen:ord.length=ops.size:=by have:=Nat.eq_of_beq_eq_true Ue;simpa using this
  rw [←hlen]
  have h0:bj c (Z.outs []) e st a {w with drawn:=w.drawn+1}:=(h.grow OO).u7 (fun b hb=>⟨hb,by simp⟩) (fun b hb=>⟨hb,by simp⟩) rfl rfl rfl rfl
  refine Nq hG CW (fun a' w' h=>h) (2 *ord.length) ord [] [] l _ e st a _ (by simp) h0 hK (OO.trans h.bC e.φ) hp hd ⟨by simp [hlen],fun i hi=> ?_⟩ (fun i hi=> .inr ((aU _ _).1 (List.all_eq_true.1 kL i (by simpa using hi)))) (by simp) (by simp) (by simp) (by simp) (by simp) (by simp)
  simp [hlen,hi]
end
end Dn
/-
  What is asked of slices.DeleteFunc, and of the function that it is handed. Conditions: none.
-/
set_option linter.unusedSimpArgs false
set_option linter.unusedVariables false
namespace Dn
open Go
structure rR (P:Program) (c:Ctx) (g:Nat) (lb:Array Value) {S:Type} (Inv:S→(Nat→Prop)→Ph→World→Prop) (step:S→MV→Option (Bool×S)):Prop where
 call: ∀{s Z φ W v x b s'},Inv s Z φ W→(∀b,W.heap.size≤b→Z b)→vR φ W→dv c.key φ v x→step s x=some (b,s')→
  fh P g (#[v]++lb) W fun r W'=>r= .bool b∧ ∃φ',Trans Z φ W φ' W'∧vR φ' W'∧Inv s' Z φ' W'
 frame: ∀{s Z φ W W'},Inv s Z φ W→W.heap.size≤W'.heap.size→(∀b,Z b→b<W.heap.size→W'.heap[b]? =W.heap[b]?)→Inv s (fun b=>Z b∧b<W.heap.size) φ W'
 mono: ∀{s Z Z' φ W},Inv s Z φ W→(∀b,Z b→Z' b)→Inv s Z' φ W
structure Nu (c:Ctx) (ob:Option Nat) {S:Type} (Inv:S→(Nat→Prop)→Ph→World→Prop) (Z0:Nat→Prop) (φ0:Ph) (w0:World) (s:S) (Z:Nat→Prop) (φ:Ph) (W:World):Prop where
 inv:Inv s Z φ W
 new: ∀b,W.heap.size≤b→Z b
 sub: ∀b,Z b→Z0 b∨w0.heap.size≤b
 gE:vR φ W
 tr:Trans (fun b=>(Z0 b∨w0.heap.size≤b)∨ob=some b) φ0 w0 φ W
 free: ∀b off,ob=some b→φ b off=none
structure K1 (P:Program) (c:Ctx) (h el:Nat):Prop where
 run: ∀{S:Type} {Inv:S→(Nat→Prop)→Ph→World→Prop} {step:S→MV→Option (Bool×S)} {g:Nat} {lb:Array Value},rR P c g lb Inv step→
  ∀{v0:Value} {xs ys:List MV} {w:World} {Z0:Nat→Prop} {φ0:Ph} {s0 s':S},(∀x∈xs,∃ms,x= .agg ms)→bX c (aW.plain fun b=>v0.ownBlock=some b) (oZ c.key φ0) w v0 ⟨el,false,xs⟩→(∀b,v0.ownBlock=some b→ ¬Z0 b)→
  Inv s0 Z0 φ0 w→(∀b,w.heap.size≤b→Z0 b)→vR φ0 w→Mw step s0 xs=some (ys,s')→
  fh P h #[v0,.func (.func g) #[] lb] w fun v W=> ∃Z φ,Nu c v0.ownBlock Inv Z0 φ0 w s' Z φ W∧bX c (aW.plain fun b=>v0.ownBlock=some b) (oZ c.key φ) W v ⟨el,false,ys⟩∧ ∀b,v.ownBlock=some b→v0.ownBlock=some b
def kR (P:Program) (c:Ctx):Prop:= ∀h,c.AS h=true→K1 P c h (c.lF (c.key h))
end Dn
/-
  Regions with a call of slices.DeleteFunc. Conditions: none.
-/
set_option linter.unusedSimpArgs false
set_option linter.unusedVariables false
namespace Dn
open Go
section
variable {P:Program} {c:Ctx} {Z:aW} {Z':Nat→Prop} {e e':Env} {st bc:St} {a:Act} {w w':World} {R:Type} {K:St→Option R} {r:R} {Q:Exit→Act→World→Prop} {o:Oper} {root:Nat} {cs:List ap} {ks:List LK} {ls outs:List MV} {ps:List (Nat×Nat)} {φ':Ph}
theorem HY (h:bj c Z e st a w) (hf:ah st.fr root= .box cs) (hm:cE cs=false) (hr:aT st.bt root=false) (ht:TC st [] ks cs ls ps) (hZ: ∀b,Z' b↔w.heap.size≤b∨gone e root ps b) {X:Nat→Prop} (XT: ∀t cT,ah st.fr t= .box cT→ ¬X (e.B t)) (XU: ∀f o b,ar st.az f=some o→(e.E f).ownBlock=some b→ ¬X b) (lO:Trans (fun b=>Z' b∨X b) e.φ w φ' w') (hi:vR φ' w')
 (hc:il c Z' φ' w' (e.B root) ks outs) (hK:zy st root ks ps outs K=some r): ∃e' bc,bj c Z e' bc a w'∧e'.φ=φ'∧(∀b,X b→ ¬Z' b→(∀t cT,ah bc.fr t= .box cT→e'.B t≠b)∧ ∀f o,ar bc.az f=some o→(e'.E f).ownBlock≠some b)∧K bc=some r:=by
 unfold zy at hK
 obtain ⟨nK,rest,qj,g1,hK⟩:=ec hK
 cases rest with
 |cons=>simp [gN] at hK
 |nil=>
 simp only [gN,CF] at hK
 cases fL:zx (aR ks) (eG (cw ps) st.az)||meets (aR ks) st.bF with
 |true=>simp [fL] at hK
 |false=>
 simp only [fL,cond_false,Gu,fE,nQ] at hK
 obtain ⟨EV,wT⟩:=Bool.or_eq_false_iff.1 fL
 have EV:=wQ EV
 have wT:=wR wT
 obtain ⟨jS,m3,E,arr,T,pC,cc,Sx,lN,jP,db,cH⟩:=hc
 have dq:jS=nK∧m3=qj.az:=by
  unfold Gi at pC
  rw [g1] at pC
  simp only [gN,Option.some.injEq,Prod.mk.injEq] at pC
  exact ⟨pC.1.symm,pC.2.symm⟩
 obtain ⟨rfl,rfl⟩:=dq
 have cq:=pB g1
 have dY: ∀f o,ar qj.az f=some o→f∈aR ks:=fun f o ho=>(sL g1 f o ho).resolve_left (by simp [ar])
 have hs:=h.slot root
 rw [hf] at hs
 have q9: ∀b,Z' b→Z.In b:=by
  intro b hb
  rcases (hZ b).1 hb with hb|hb
  ·exact h.bC b hb
  ·exact sM h hf hr ht b hb
 have CI: ∀t cT,ah st.fr t= .box cT→t≠root→ ¬Z' (e.B t):=by
  intro t cT Ko cz hz
  rcases (hZ _).1 hz with hz|hz|⟨x,g,hp,hz⟩
  ·have:=n4 h Ko;omega
  ·exact h.bb t root cT cs Ko hf cz hz
  ·obtain ⟨o,ho,_⟩:=ht.az x g hp
   exact h.bf t cT g o Ko ho hz
 have hold: ∀f o,ar (eG (cw ps) st.az) f=some o→ar st.az f=some o∧f∉cw ps:=by
  intro f o ho
  rw [wM] at ho
  cases hn:aT (cw ps) f with
  |true=>simp [hn] at ho
  |false=>
   simp only [hn,Bool.false_eq_true,if_false] at ho
   exact ⟨ho,fun hm=>by rw [(aU _ _).2 hm] at hn;cases hn⟩
 have uV: ∀f o b,ar (eG (cw ps) st.az) f=some o→(e.E f).ownBlock=some b→ ¬Z' b:=by
  intro f o b ho hb hz
  obtain ⟨rJ,Pn⟩:=hold f o ho
  rcases (hZ _).1 hz with hz|hz|⟨x,g,hp,hz⟩
  ·have:=n5 h rJ hb;omega
  ·exact h.bf root cs f o hf rJ (by rw [hb,hz])
  ·obtain ⟨o2,bG,_⟩:=ht.az x g hp
   have:=h.ff f g o o2 b rJ bG hb hz
   subst this
   exact Pn (uT.2 ⟨x,hp⟩)
 have Qi: ∀t cT,ah st.fr t= .box cT→t≠root→ ¬(Z' (e.B t)∨X (e.B t)):=fun t cT h1 h2 h3=>h3.elim (CI t cT h1 h2) (XT t cT h1)
 have K3: ∀f o b,ar (eG (cw ps) st.az) f=some o→(e.E f).ownBlock=some b→ ¬(Z' b∨X b):=fun f o b h1 h2 h3=>h3.elim (uV f o b h1 h2) (XU f o b (hold f o h1).1 h2)
 let E2:Nat→Value:=fun f=>if aT (aR ks) f=true then E f else e.E f
 have sk: ∀f,f∈aR ks→E2 f=E f:=fun f hf=>by show (if _ then _ else _)=_;rw [if_pos ((aU _ _).2 hf)]
 have B9: ∀f,f∉aR ks→E2 f=e.E f:=fun f hf=>by show (if _ then _ else _)=_;rw [if_neg (fun hq=>hf ((aU _ _).1 hq))]
 have fP: ∀f o,ar (qj.az++eG (cw ps) st.az) f=some o→(f∈aR ks∧ar qj.az f=some o)∨(f∉aR ks∧ar (eG (cw ps) st.az) f=some o):=by
  intro f o ho
  rw [zR] at ho
  cases hq:ar qj.az f with
  |some o2=>simp only [hq,Option.some.injEq] at ho;exact .inl ⟨dY f o2 hq,by rw [ho]⟩
  |none=>
   simp only [hq] at ho
   refine .inr ⟨fun hm=> ?_,ho⟩
   rw [EV f hm] at ho;cases ho
 let e2:Env:=⟨e.key,φ',E2,e.B,qj.az++eG (cw ps) st.az⟩
 have my:eS (fun g=>True∧g∉aR ks) (fun _=>True) e e2:=by
  refine ⟨rfl,lO.ph,fun _ _=>rfl,fun f o' rJ hS=> ?_⟩
  rcases fP f o' rJ with ⟨h1,_⟩|⟨h1,h2⟩
  ·exact absurd h1 hS.2
  ·exact ⟨o',by rw [h.m];exact (hold f o' h2).1,B9 f h1,rfl⟩
 have Kp:al e2 arr.toList jS:=by
  have PR:eS (fun f=>f∈aR ks) (fun _=>True) ⟨c.key,φ',E,fun _=>e.B root,qj.az⟩ ⟨c.key,φ',E2,fun _=>e.B root,qj.az++eG (cw ps) st.az⟩:=by
   refine ⟨rfl,.refl _,fun _ _=>rfl,fun f o' rJ hS=> ?_⟩
   rcases fP f o' rJ with ⟨h1,h2⟩|⟨h1,_⟩
   ·exact ⟨o',h2,sk f h1,rfl⟩
   ·exact absurd hS h1
  have h1:=jP.on PR cq
  have PS:eS (fun _=>True) (fun _=>False) ⟨c.key,φ',E2,fun _=>e.B root,qj.az++eG (cw ps) st.az⟩ e2:=⟨h.key,.refl _,fun _ h=>h.elim,fun f o ho _=>⟨o,ho,rfl,rfl⟩⟩
  exact h1.on PS (fun _ _ _ _=>trivial)
 have Vr:cE jS=false:=Kp.oO
 have HB: ∀t,ah (bA (fW (aR ks) st.fr) root (.box jS)) t=if t=root then .box jS else sK (aR ks) (ah st.fr t):=fun t=>by rw [bg,wN]
 have mA: ∀t ds,ah (bA (fW (aR ks) st.fr) root (.box jS)) t= .box ds→ ∃Vs,ah st.fr t= .box Vs:=by
  intro t ds hb
  rw [HB] at hb
  by_cases lO:t=root
  ·exact ⟨cs,by rw [lO];exact hf⟩
  ·rw [if_neg lO] at hb
   obtain ⟨d0,h1,_⟩:=lQ _ hb
   exact ⟨d0,h1⟩
 refine ⟨e2,⟨st.bt,st.bF,bA (fW (aR ks) st.fr) root (.box jS),qj.az++eG (cw ps) st.az⟩,⟨h.defers,h.size,rfl,h.key,?_,?_,?_,?_,?_,?_,?_,hi,fun b hb=>h.bC b (Nat.le_trans lO.size hb)⟩,rfl,fun b hb Tb=>⟨fun t ds Ko he=> ?_,fun f o ho he=> ?_⟩,hK⟩
 rotate_left 7
 ·obtain ⟨d0,k1⟩:=mA t ds Ko
  exact XT t d0 k1 (by have he:e.B t=b:=he;rw [he];exact hb)
 ·have he:(E2 f).ownBlock=some b:=he
  rcases fP f o ho with ⟨k1,k2⟩|⟨k1,k2⟩
  ·rw [sk f k1] at he
   obtain ⟨I,cells,_,_,_,_,q5⟩:=(db f o k2).1.row
   exact Tb (q5 _ he).1
  ·rw [B9 f k1] at he
   exact XU f o b (hold f o k2).1 he hb
 ·show (ay (bA (fW (aR ks) st.fr) root (.box jS))).Nodup
  refine cn ?_
  rw [wO];exact h.nodup
 ·intro t
  show bp Z e2 w' t _ (ah (bA (fW (aR ks) st.fr) root (.box jS)) t)
  rw [HB]
  by_cases kP:t=root
  ·subst kP
   rw [if_pos rfl]
   exact ⟨hs.1.eL (by rw [nT hm,nT Vr]),hs.2.bC,⟨_,cc,rfl,Kp⟩,lN⟩
  ·rw [if_neg kP]
   have cY:=h.slot t
   have IG:=Qi t
   generalize ah st.fr t=s at cY IG
   by_cases ua: ∃ds,s= .box ds
   ·obtain ⟨ds,rfl⟩:=ua
    rw [CG]
    have hz:=IG ds rfl kP
    obtain ⟨o2,h1,h2⟩:=cY.2.obj
    refine ⟨cY.1.eL (zQ _ _),cY.2.bC,⟨o2,by show w'.heap[e.B t]? =_;rw [lO.heap _ hz (aO h1)];exact h1,?_⟩,fun off=>by show φ' (e.B t) off=none;rw [lO.free _ off hz];exact cY.2.free off⟩
    exact (CH h2).on my (Gw _ (fun l _ f _=>trivial))
   ·have PT:ae e (a.tmps.getD t undef) s:=by cases s<;>simp only [bp] at cY<;>first|exact cY|exact absurd ⟨_,rfl⟩ ua
    have h2:=(PT.Ov (aR ks)).on my (Gv _ (b8 s))
    have Kq: ∀ds,sK (aR ks) s≠ .box ds:=fun ds hq=>by
     obtain ⟨d0,h1,_⟩:=lQ _ hq
     exact ua ⟨d0,h1⟩
    generalize sK (aR ks) s=s2 at h2 Kq
    cases s2<;>first|exact h2|exact absurd rfl (Kq _)
 ·intro t
  show bD (bA (fW (aR ks) st.fr) root (.box jS)) (ah (bA (fW (aR ks) st.fr) root (.box jS)) t)
  have J3: ∀q,bI (ah st.fr q)=true→bI (ah (bA (fW (aR ks) st.fr) root (.box jS)) q)=true:=by
   intro q hq
   rw [HB]
   by_cases Oo:q=root
   ·rw [if_pos Oo];rfl
   ·rw [if_neg Oo];exact wS _ hq
  rw [HB]
  by_cases kP:t=root
  ·rw [if_pos kP];trivial
  ·rw [if_neg kP]
   refine uU _ ?_
   have iO:=h.root t
   generalize ah st.fr t=s at iO
   cases s with
   |ptr q o=>exact J3 q iO
   |hp q o i=>exact J3 q iO
   |oX q=>exact J3 q iO
   |_=>trivial
 ·intro f o ho
  rcases fP f o ho with ⟨h1,h2⟩|⟨h1,h2⟩
  ·have Vt:=(db f o h2).1
   have pw:f∉Z.bF:=by rw [←h.defers.2.2.1];exact wT f h1
   refine bX.to ?_ pw
   obtain ⟨I,cells,q1,q2,q3,q4,q5⟩:=Vt.row
   refine ⟨I,cells,q1,q2,?_,?_,fun b hb=> ?_⟩
   ·show w'.ownsRow 0 o.ty I.size (E2 f) o.xs.length cells
    rw [sk f h1];exact q3
   ·show aS e.key φ' I.size cells o.xs
    rw [h.key];exact q4
   ·have hb:(E2 f).ownBlock=some b:=hb
    rw [sk f h1] at hb
    exact ⟨q9 b (q5 b hb).1,(q5 b hb).2.1,fun hc=>hc.elim⟩
  ·obtain ⟨rJ,Pn⟩:=hold f o h2
   obtain ⟨I,cells,q1,q2,q3,q4,q5⟩:=(h.dn f o rJ).row
   refine ⟨I,cells,q1,q2,?_,q4.mono lO.ph,?_⟩
   ·show w'.ownsRow 0 o.ty I.size (E2 f) o.xs.length cells
    rw [B9 f h1]
    refine ⟨q3.1,?_⟩
    rcases q3.2 with h6|⟨g,cap,dN,k1,k2,k3,k4⟩
    ·exact .inl h6
    ·refine .inr ⟨g,cap,dN,k1,k2,?_,k4⟩
     rw [lO.heap g (K3 f o g h2 (by rw [k1];rfl)) (aO k3)];exact k3
   ·intro aN hb
    have hb:(E2 f).ownBlock=some aN:=hb
    rw [B9 f h1] at hb
    refine ⟨(q5 aN hb).1,fun off u hu=>(q5 aN hb).2.1 off u ?_,fun k1 k2 j hj=>lO.ph.qk ((q5 aN hb).2.2 k1 k2 j hj) hj⟩
    have hu:φ' aN off=some u:=hu
    rw [lO.free _ off (K3 f o aN h2 hb)] at hu;exact hu
 ·intro t t' c1 c2 h1 h2 cz
  obtain ⟨d1,k1⟩:=mA t c1 h1
  obtain ⟨d2,k2⟩:=mA t' c2 h2
  exact h.bb t t' d1 d2 k1 k2 cz
 ·intro t c1 f o h1 h2
  show (E2 f).ownBlock≠some (e.B t)
  rcases fP f o h2 with ⟨k1,k2⟩|⟨k1,k2⟩
  ·rw [sk f k1]
   by_cases kP:t=root
   ·rw [kP];exact (db f o k2).2
   ·obtain ⟨d1,k3⟩:=mA t c1 h1
    intro hq
    obtain ⟨I,cells,_,_,_,_,q5⟩:=(db f o k2).1.row
    exact CI t d1 k3 kP (q5 _ hq).1
  ·rw [B9 f k1]
   obtain ⟨d1,k3⟩:=mA t c1 h1
   exact h.bf t d1 f o k3 (hold f o k2).1
 ·intro f f' o o' k h1 h2 h3 h4
  have h3:(E2 f).ownBlock=some k:=h3
  have h4:(E2 f').ownBlock=some k:=h4
  rcases fP f o h1 with ⟨k1,k2⟩|⟨k1,k2⟩<;>rcases fP f' o' h2 with ⟨k3,k4⟩|⟨k3,k4⟩
  ·rw [sk f k1] at h3
   rw [sk f' k3] at h4
   exact cH f f' o o' k k2 k4 h3 h4
  ·rw [sk f k1] at h3
   rw [B9 f' k3] at h4
   obtain ⟨I,cells,_,_,_,_,q5⟩:=(db f o k2).1.row
   exact absurd (q5 _ h3).1 (uV f' o' k k4 h4)
  ·rw [B9 f k1] at h3
   rw [sk f' k3] at h4
   obtain ⟨I,cells,_,_,_,_,q5⟩:=(db f' o' k4).1.row
   exact absurd (q5 _ h4).1 (uV f o k k2 h3)
  ·rw [B9 f k1] at h3
   rw [B9 f' k3] at h4
   exact h.ff f f' o o' k (hold f o k2).1 (hold f' o' k4).1 h3 h4
end
end Dn
/-
  A call of slices.DeleteFunc. Conditions: none.
-/
set_option linter.unusedSimpArgs false
set_option linter.unusedVariables false
namespace Dn
open Go
section
variable {P:Program} {c:Ctx} {Z:aW} {e e':Env} {st bc:St} {a:Act} {w w':World} {R:Type} {K:St→Option R} {r:R} {Q:Exit→Act→World→Prop} {o:Oper}
theorem fh.imp {P:Program} {f:FuncId} {args:Array Value} {w:World} {R R':Value→World→Prop} (hc:fh P f args w R) (h: ∀v w',R v w'→R' v w'):fh P f args w R':=by
 unfold fh at hc⊢
 split
 ·rename_i dq
  rw [dq] at hc
  exact Calls.mono hc (fun x tX ⟨v,e,hr⟩=>⟨v,e,h v tX hr⟩)
 ·rename_i dq
  rw [dq] at hc
  exact h _ _ hc
 ·rename_i h1 h2
  split at hc
  ·rename_i dq;exact absurd dq (h1 _ _ _)
  ·rename_i dq;exact absurd dq (h2 _ _)
  ·exact hc
theorem Trans.u7 {I J:Nat→Prop} {φ φ':Ph} (h:Trans I φ w φ' w') (hs: ∀b,I b→J b):Trans J φ w φ' w':=
 ⟨h.ph,fun b hb=>h.heap b (fun hz=>hb (hs b hz)),fun b o hb=>h.free b o (fun hz=>hb (hs b hz)),h.size,h.rest⟩
theorem C2 {key:Nat→Nat} {φ:Ph} {v:Value} {b:Bool} (h:dv key φ v (.b b)):v= .bool b:=by
 obtain ⟨_,h⟩:=h
 generalize si:[v]=l at h
 cases h;simpa using si
theorem Fc (hS:Sound P c) {f:Nat} (hg:c.df (c.key f)=false) {lb:Array Value} {ms:List MV}:rR P c f lb (fun (_:Unit) (_:Nat→Prop) φ (_:World)=>bB c.key φ lb.toList ms) (Jl c.g (c.key f) ms):=by
 refine ⟨?_,fun h _ _=>h,fun h _=>h⟩
 intro s Z φ W v x b s' hinv kb mS Qj cY
 unfold Jl at cY
 split at cY
 ·rename_i b' hx
  simp only [Option.some.injEq,Prod.mk.injEq] at cY
  obtain ⟨rfl,_⟩:=cY
  have dZ:dS c (fun b=>W.heap.size≤b) φ W (c.key f) (v::lb.toList) (x::ms):=by
   simp only [dS,hg,Bool.false_eq_true,if_false]
   exact ⟨v,lb.toList,rfl,Qj,hinv⟩
  have:=hS f (x::ms) (.b b') hx φ W (fun b=>W.heap.size≤b) _ (fun b hb=>hb) dZ mS
  have e1:(v::lb.toList).toArray= #[v]++lb:=by apply Array.toList_inj.1;simp
  rw [e1] at this
  refine this.imp ?_
  rintro v' w' ⟨φ',t1,t2,t3⟩
  exact ⟨C2 t3,φ',t1.u7 kb,t2,hinv.mono t1.ph⟩
 ·cases cY
theorem HZ (hS:Sound P c) {f pos aN:Nat} {ks:List LK} {ms:List MV} {Tc:List Value} (hg:c.df (c.key f)=true) (qP:c.sig (c.key f)=some (pos,ks)) (ek:pos=ms.length+1):
 rR P c f (Tc++[Value.pointer (some ⟨aN,0,none⟩)]).toArray (fun ls Z φ W=>il c Z φ W aN ks ls∧bB c.key φ Tc ms) (Jm c.g (c.key f) ms):=by
 refine ⟨?_,?_,fun h hz=>⟨h.1.wide hz,h.2⟩⟩
 ·intro ls Z φ W v x b s' hinv kb mS Qj cY
  obtain ⟨lJ,mZ⟩:=hinv
  unfold Jm at cY
  split at cY
  ·rename_i b' outs hx
   simp only [Option.some.injEq,Prod.mk.injEq] at cY
   obtain ⟨rfl,rfl⟩:=cY
   have hl:=mZ.length
   have dZ:dS c Z φ W (c.key f) (v::(Tc++[Value.pointer (some ⟨aN,0,none⟩)])) (x::(ms++[.cell (.func 0 ls)])):=by
    simp only [dS,hg,if_true]
    refine .inr (.inr ⟨pos,ks,0,ls,aN,qP,?_,?_,?_,lJ⟩)
    ·rw [ek,List.getElem?_cons_succ,←hl,List.getElem?_append_right (Nat.le_refl _)];simp
    ·rw [ek,List.getElem?_cons_succ,List.getElem?_append_right (Nat.le_refl _)];simp
    ·rw [ek,List.set_cons_succ,List.set_append_right _ _ (Nat.le_refl _),Nat.sub_self]
     exact ⟨v,_,rfl,Qj,mZ.append ⟨_,[],rfl,⟨rfl,.rp aN 0 [] [] .nil (by simp)⟩,rfl⟩⟩
   have:=hS f _ _ hx φ W Z _ kb dZ mS
   have e1:(v::(Tc++[Value.pointer (some ⟨aN,0,none⟩)])).toArray= #[v]++(Tc++[Value.pointer (some ⟨aN,0,none⟩)]).toArray:=by apply Array.toList_inj.1;simp
   rw [e1] at this
   refine this.imp ?_
   rintro v' w' ⟨φ',t1,t2,o4,pos',XI,V2,Hd,pg,IH,hc⟩
   rw [qP] at pg
   simp only [Option.some.injEq,Prod.mk.injEq] at pg
   obtain ⟨rfl,rfl⟩:=pg
   have hb:V2=aN:=by
    rw [ek,List.getElem?_cons_succ,←hl,List.getElem?_append_right (Nat.le_refl _)] at IH
    simp at IH
    exact IH.1.symm
   subst hb
   exact ⟨C2 o4,φ',t1,t2,hc,mZ.mono t1.ph⟩
  ·cases cY
 ·intro ls Z φ W W' hinv kK kM
  obtain ⟨⟨cs,m,E,arr,T,k1,k2,k3,k4,k5,k6,k7⟩,mZ⟩:=hinv
  have dE:=aO k2
  refine ⟨⟨cs,m,E,arr,T,k1,(kM aN k3 dE).trans k2,⟨k3,dE⟩,k4,k5,fun f' o' ho=>⟨?_,(k6 f' o' ho).2⟩,k7⟩,mZ⟩
  obtain ⟨I,cells,q1,q2,q3,q4,q5⟩:=(k6 f' o' ho).1.row
  refine ⟨I,cells,q1,q2,⟨q3.1,?_⟩,q4,fun b hb=>⟨⟨(q5 b hb).1,Bc q3 hb⟩,(q5 b hb).2⟩⟩
  rcases q3.2 with h6|⟨g,cap,dN,r1,r2,r3,r4⟩
  ·exact .inl h6
  ·exact .inr ⟨g,cap,dN,r1,r2,(kM g (q5 g (by rw [r1];rfl)).1 (aO r3)).trans r3,r4⟩
theorem GF {xs:List MV} (h:xs.all Mx=true): ∀x∈xs,∃ms,x= .agg ms:=by
 intro x hx
 have:=List.all_eq_true.1 h x hx
 cases x<;>simp [Mx] at this
 exact ⟨_,rfl⟩
theorem put_comm {a:Act} {x y:Nat} (h:x≠y) (v u:Value):(a.put (some x) v).put (some y) u=(a.put (some y) u).put (some x) v:=by
 show ({a with tmps:=(a.tmps.setIfInBounds x v).setIfInBounds y u}:Act)={a with tmps:=(a.tmps.setIfInBounds y u).setIfInBounds x v}
 rw [Array.setIfInBounds_comm v u h]
theorem GG {y d:Nat} {o1 o2:Oper} {h:Nat} {v0 v' fv:Value} {ys:List MV} {φ0:Ph} {w0:World} (hs:bj c Z e st a w) (h1:o1.dst=some y) (h2:o2.dst=some d) (OP:d≠y) (q9: ∀b,v0.ownBlock=some b→Z.In b)
 (db:bX c (aW.plain fun b=>v0.ownBlock=some b) (oZ c.key e.φ) w v' ⟨c.lF (c.key h),false,ys⟩) (cq: ∀b,v'.ownBlock=some b→v0.ownBlock=some b) (uc: ∀b,v0.ownBlock=some b→(∀t cT,ah st.fr t= .box cT→e.B t≠b)∧ ∀f o,ar st.az f=some o→(e.E f).ownBlock≠some b)
 (ht:Trans Z φ0 w0 e.φ w)
 (hK:(dD st (o2.dst.getD 0) ⟨c.lF (c.key h),false,ys⟩ fun st=>aH c st o2.dst (.sc (.own (o2.dst.getD 0))) fun st=>aH c st o1.dst (.sc .un) K)=some r):Out c Z K r φ0 w0 ((a.put o1.dst fv).put o2.dst v') w:=by
 have pw:=hs.PH hK
 have eX:=iY hK
 have q8:bX c Z.nc e w v' ⟨c.lF (c.key h),false,ys⟩:=by
  obtain ⟨I,cells,g1,g2,g3,g4,g5⟩:=db.row
  refine ⟨I,cells,g1,g2,g3,by rw [hs.key];exact g4,fun aN hb=>⟨q9 aN (cq aN hb),(g5 aN hb).2.1,fun hc=>hc.elim⟩⟩
 have EG:=hs.EO pw q8 fun b hb=>uc b (cq b hb)
 obtain ⟨I,cells,g1,g2,g3,g4,g5⟩:=db.row
 have eN:v'.oneCell'=true:=by
  rcases g3.2 with ⟨rfl,_⟩|⟨g,cap,dN,rfl,_⟩<;>rfl
 obtain ⟨e3,ik,q1,q2,q3⟩:=bK (v:=v') (s:= .sc (.own (o2.dst.getD 0))) EG (.of (mU eN) trivial) eX
 obtain ⟨e4,HC,q4,q5,q6⟩:=bK (v:=fv) (s:= .sc .un) q1 (.of (by simp [ae]) trivial) q2
 rw [h1,h2] at q4
 rw [put_comm OP] at q4
 rw [h1,h2]
 exact ⟨e4,HC,q4,by rw [q6,q3];exact ht,q5⟩
theorem Nv (hS:Sound P c) {h f x y d:Nat} {bk:Array Operand} {cl:Call} {o1 o2:Oper} (hd:K1 P c h (c.lF (c.key h))) (h1:o1.op= .makeFunc (.func f) #[] bk) (h2:o2.op= .call cl) (lL:cl.callee= .value (.func h)) (dZ:cl.args.toList=[.tmp x,.tmp y])
 (V3:o1.dst=some y) (K4:o2.dst=some d) (Gn:x≠y) (OP:d≠y) (ZY:y<c.n) (iX:bj c Z e st a w) (hK:Jn c h f bk.toList (.tmp x) o1 o2 st K=some r):
 o1.wp P a w (fun a1 w1=>o2.wp P a1 w1 (Out c Z K r e.φ w) Q) Q:=by
 have Td:(execOp a.eval o1).run P w= .ok (.value (.func (.func f) #[] (bk.map a.eval))) w:=by simp [execOp,h1,Instr.makeFunc]
 unfold Oper.wp
 rw [Td,Oper.upon_value]
 have vQ: ∀v:Value,(a.put o1.dst v).eval (.tmp x)=a.eval (.tmp x)∧(a.put o1.dst v).eval (.tmp y)=v:=by
  intro v
  rw [V3]
  have hy:y<a.tmps.size:=by rw [iX.size];exact ZY
  constructor
  ·show (a.put (some y) v).tmps.getD x undef=a.tmps.getD x undef
   rw [Act.kH hy,if_neg Gn]
  ·show (a.put (some y) v).tmps.getD y undef=v
   rw [Act.kH hy,if_pos rfl]
 have Qk: ∀v:Value,cl.args.map (a.put o1.dst v).eval= #[a.eval (.tmp x),v]:=by
  intro v
  apply Array.toList_inj.1
  rw [Array.toList_map,dZ]
  simp [(vQ v).1,(vQ v).2]
 have OQ: ∀v:Value,(execOp (a.put o1.dst v).eval o2).run P w=(callFunc h #[a.eval (.tmp x),v]).run P w:=by
  intro v
  have:=Qk v
  simp [execOp,h2,resolve,lL,this,Act.eval,Deferred.ofValue,invoke]
 unfold Jn at hK
 cases qP:c.sig (c.key f) with
 |none=>
  simp only [qP] at hK
  cases hg:c.df (c.key f) with
  |true=>simp [hg] at hK
  |false=>
  simp only [hg,cond_false] at hK
  obtain ⟨e1,ca,ms,s1,x1,r1,eX,eN⟩:=nZ iX hK
  obtain ⟨e2,ch,xs,G,lz⟩:=kO s1 (s1.eval (.tmp x)).1 eX
  simp only [gF] at lz
  obtain ⟨Ql,rN⟩:=b7 lz
  obtain ⟨p,hp,Gj⟩:=ia rN
  obtain ⟨ys,u⟩:=p
  have mZ:bB c.key e1.φ (bk.map a.eval).toList ms:=by
   have:=dp.one r1 eN
   rw [s1.key] at this
   simpa using this
  have yT: ∀b,(a.eval (.tmp x)).ownBlock=some b→ ¬w.heap.size≤b:=by
   intro b hb
   obtain ⟨I,cells,_,_,g3,_⟩:=G.row.row
   have:=Bc g3 hb
   omega
  have oP:=hd.run (Fc hS hg) (GF Ql) G.row yT mZ (fun b hb=>hb) s1.gE hp
  refine mV (OQ _) oP ?_
  rintro v' w' ⟨Zw,φ',hW,db,cq⟩
  have Nw: ∀b,((w.heap.size≤b∨w.heap.size≤b)∨(a.eval (.tmp x)).ownBlock=some b)→Z.In b:=by
   rintro b ((hb|hb)|hb)
   ·exact s1.bC b hb
   ·exact s1.bC b hb
   ·exact G.In b hb
  have Sx: ∀t cs,ah ch.fr t= .box cs→ ¬((w.heap.size≤e2.B t∨w.heap.size≤e2.B t)∨(a.eval (.tmp x)).ownBlock=some (e2.B t)):=by
   rintro t cs ht ((hb|hb)|hb)
   ·have:=n4 G.iZ ht;omega
   ·have:=n4 G.iZ ht;omega
   ·exact G.box t cs ht hb
  have ZZ: ∀f o k,ar ch.az f=some o→(e2.E f).ownBlock=some k→ ¬((w.heap.size≤k∨w.heap.size≤k)∨(a.eval (.tmp x)).ownBlock=some k):=by
   rintro f o k ho hk ((hb|hb)|hb)
   ·have:=n5 G.iZ ho hk;omega
   ·have:=n5 G.iZ ho hk;omega
   ·exact G.dn f o k ho hk hb
  have lO:=hW.tr
  rw [←G.φ] at lO
  have PF:=G.iZ.called Nw Sx ZZ lO hW.gE
  have kP:Trans Z e.φ w φ' w':=x1.tr.trans (hW.tr.u7 Nw)
  exact GG (e:={e2 with φ:=φ'}) PF V3 K4 OP G.In db cq (fun b hb=>⟨fun t cT ht he=>G.box t cT ht (by rw [hb,←he]),fun f o ho hk=>G.dn f o b ho hk hb⟩) kP Gj
 |some sg=>
  obtain ⟨pos,ks⟩:=sg
  simp only [qP] at hK
  obtain ⟨e1,ca,ms,s1,x1,r1,eX,eN⟩:=nZ iX hK
  obtain ⟨e2,ch,xs,G,lz⟩:=kO s1 (s1.eval (.tmp x)).1 eX
  simp only [gF] at lz
  obtain ⟨Ql,rN⟩:=b7 lz
  cases sT:bk.toList.getLast? with
  |none=>simp [sT] at rN
  |some y0=>
  simp only [sT] at rN
  split at rN
  rotate_left
  ·cases rN
  rename_i root E0
  split at rN
  rotate_left
  ·cases rN
  rename_i cs hf
  cases fL:cE cs||aT ch.bt root||!dt c ks||!Nat.beq pos (ms.length+1)||!c.df (c.key f) with
  |true=>simp [fL] at rN
  |false=>
  simp only [fL,cond_false] at rN
  simp only [Bool.or_eq_false_iff,Bool.not_eq_false'] at fL
  obtain ⟨⟨⟨⟨hm,hr⟩,dR⟩,ek⟩,hg⟩:=fL
  have ek:=Nat.eq_of_beq_eq_true ek
  obtain ⟨ls,ps,ht,Gj⟩:=rP rN
  obtain ⟨p,hp,Kr⟩:=ia Gj
  obtain ⟨ys,outs⟩:=p
  have Z3:a.eval y0= .pointer (some ⟨e2.B root,0,none⟩):=by
   have:=(G.iZ.eval y0).1
   rw [E0] at this
   exact this
  have Te:(bk.map a.eval)=((bk.toList.dropLast.map a.eval)++[Value.pointer (some ⟨e2.B root,0,none⟩)]).toArray:=by
   apply Array.toList_inj.1
   rw [Array.toList_map]
   have cz:bk.toList≠[]:=by intro e;rw [e] at sT;simp at sT
   have h3:bk.toList=bk.toList.dropLast++[y0]:=by
    have h4:=List.dropLast_concat_getLast cz
    have h5:=List.getLast?_eq_some_getLast cz
    rw [sT] at h5
    rw [Option.some.inj h5]
    exact h4.symm
   rw [h3]
   simp [Z3]
  have mZ:bB c.key e2.φ (bk.toList.dropLast.map a.eval) ms:=by
   have:=dp.one r1 eN
   rw [s1.key,←G.φ] at this
   exact this
  have V4:bX c (aW.plain fun b=>(a.eval (.tmp x)).ownBlock=some b) (oZ c.key e2.φ) w (a.eval (.tmp x)) ⟨c.lF (c.key h),false,xs⟩:=by rw [G.φ];exact G.row
  let Z2:Nat→Prop:=fun b=>w.heap.size≤b∨gone e2 root ps b
  have Z4: ∀b,(a.eval (.tmp x)).ownBlock=some b→ ¬gone e2 root ps b:=by
   rintro b hb (rfl|⟨q,g,hp,hq⟩)
   ·exact G.box root cs hf hb
   ·obtain ⟨o,ho,_⟩:=ht.az q g hp
    exact G.dn g o b ho hq hb
  have dE: ∀b,(a.eval (.tmp x)).ownBlock=some b→b<w.heap.size:=by
   intro b hb
   obtain ⟨I,cells,_,_,g3,_⟩:=G.row.row
   exact Bc g3 hb
  have yT: ∀b,(a.eval (.tmp x)).ownBlock=some b→ ¬Z2 b:=by
   rintro b hb (h'|h')
   ·have:=dE b hb;omega
   ·exact Z4 b hb h'
  have lJ:il c Z2 e2.φ w (e2.B root) ks ls:=(wL G.iZ hf hm dR ht).wide fun b hb=> .inr hb
  have oP:=hd.run (HZ hS hg qP ek) (GF Ql) V4 yT ⟨lJ,mZ⟩ (fun b hb=> .inl hb) G.iZ.gE hp
  rw [←Te] at oP
  refine mV (OQ _) oP ?_
  rintro v' w' ⟨Zw,φ',hW,db,cq⟩
  have XV: ∀b,Z2 b∨w.heap.size≤b→Z2 b:=fun b hb=>hb.elim id .inl
  have Nw: ∀b,Z2 b→Z.In b:=fun b hb=>hb.elim (G.iZ.bC b) (sM G.iZ hf hr ht b)
  have lO:Trans (fun b=>Z2 b∨(a.eval (.tmp x)).ownBlock=some b) e2.φ w φ' w':=hW.tr.u7 fun b hb=>hb.elim (fun h=> .inl (XV b h)) .inr
  have Qm:il c Z2 φ' w' (e2.B root) ks outs:=hW.inv.1.wide fun b hb=>XV b (hW.sub b hb)
  obtain ⟨e3,ik,h3,PU,hX,CK⟩:=HY G.iZ hf hm hr ht (fun b=>Iff.rfl) (X:=fun b=>(a.eval (.tmp x)).ownBlock=some b) (fun t cT rL hb=>G.box t cT rL hb) (fun f o b ho hk hb=>G.dn f o b ho hk hb) lO hW.gE Qm Kr
  have kP:Trans Z e.φ w φ' w':=by
   have t2:Trans Z e2.φ w φ' w':=lO.u7 fun b hb=>hb.elim (Nw b) (G.In b)
   rw [G.φ] at t2
   exact x1.tr.trans t2
  subst PU
  exact GG h3 V3 K4 OP G.In db cq (fun b hb=>hX b hb (yT b hb)) kP CK
end
end Dn
/-
  Regions in the order of their text. Conditions: none.
-/
set_option linter.unusedSimpArgs false
set_option linter.unusedVariables false
namespace Dn
open Go
section
variable {P:Program} {c:Ctx} {Z:aW} {e:Env} {st:St} {a:Act} {w:World} {R:Type} {K:St→Option R} {r:R} {Q:Exit→Act→World→Prop} {ops:Array Oper}
theorem C3 (hG:Good P c) {is:List Nat} {rest:List Nat}: ∀{os:List Oper} {e:Env} {st:St} {a:Act} {w:World},is.map (ops[·]?)=os.map some→bj c Z e st a w→nN c ops.toList os st K=some r→
 ∀{φ0:Ph} {w0:World},Trans Z φ0 w0 e.φ w→(∀a' w',Out c Z K r φ0 w0 a' w'→wpOps P ops Q rest a' w')→wpOps P ops Q (is++rest) a w:=by
 induction is with
 |nil=>
  intro os e st a w hm h hK φ0 w0 ht hQ
  cases os with
  |nil=>exact hQ a w ⟨e,st,h,ht,hK⟩
  |cons=>simp at hm
 |cons i is ih=>
  intro os e st a w hm h hK φ0 w0 ht hQ
  cases os with
  |nil=>simp at hm
  |cons o os=>
   simp only [List.map_cons,List.cons.injEq] at hm
   simp only [nN] at hK
   rw [List.cons_append,wpOps_cons]
   refine wpOp_mono ?_ (Gx hG hm.1 h hK)
   rintro a' w' ⟨e2,ch,h1,h2,h3⟩
   exact ih hm.2 h1 h3 (ht.trans h2) hQ
structure OR (c:Ctx) (l pre:List Oper) (f:Nat) (bk:List Operand) (h:Nat) (x:Operand) (o1 o2:Oper) (post:List Oper):Prop where
 eq:l=pre++o1::o2::post
 is: ∃(cs:Array Operand) (cl:Call) (x' y d:Nat),cs.toList=bk∧o1.op= .makeFunc (.func f) #[] cs∧o2.op= .call cl∧cl.callee= .value (.func h)∧cl.args.toList=[.tmp x',.tmp y]∧x= .tmp x'∧o1.dst=some y∧o2.dst=some d∧c.AS h=true∧x'≠y∧d≠y∧y<c.n
theorem Fe: ∀{l pre H0:List Oper} {f:Nat} {bk:List Operand} {h:Nat} {x:Operand} {o1 o2:Oper} {post:List Oper},sv c pre l=some (H0,f,bk,h,x,o1,o2,post)→OR c (pre.reverse++l) H0 f bk h x o1 o2 post:=by
 intro l
 induction l with
 |nil=>intro pre H0 f bk h x o1 o2 post hd;simp [sv] at hd
 |cons p1 l ih=>
  intro pre H0 f bk h x o1 o2 post hd
  cases l with
  |nil=>simp [sv] at hd
  |cons p2 r=>
   have Qn:sv c (p1::pre) (p2::r)=some (H0,f,bk,h,x,o1,o2,post)→OR c (pre.reverse++p1::p2::r) H0 f bk h x o1 o2 post:=by
    intro hq
    have:=ih hq
    simpa using this
   unfold sv at hd
   split at hd
   ·rename_i f' first cs cl h1 h2
    split at hd
    ·rename_i h' x' y' d' k1 k2 k3 k4
     cases hb:c.AS h'&&Nat.beq y' d'&&!Nat.beq x' d'&&!Nat.ble c.n d'&&!Nat.beq (p2.dst.getD d') d' with
     |false=>simp only [hb,cond_false] at hd;exact Qn hd
     |true=>
      simp only [hb,cond_true,Option.some.injEq,Prod.mk.injEq] at hd
      obtain ⟨rfl,rfl,rfl,rfl,rfl,rfl,rfl,rfl⟩:=hd
      simp only [Bool.and_eq_true,Bool.not_eq_true',cm,decide_eq_true_eq,decide_eq_false_iff_not] at hb
      obtain ⟨⟨⟨⟨q1,rfl⟩,q3⟩,q4⟩,q5⟩:=hb
      have hf:first= #[]:=by apply Array.toList_inj.1;simpa using k3
      subst hf
      have K4: ∃d,p2.dst=some d∧d≠y':=by
       cases hp:p2.dst with
       |none=>rw [hp] at q5;simp at q5
       |some d=>rw [hp] at q5;exact ⟨d,rfl,q5⟩
      obtain ⟨d,K4,Z5⟩:=K4
      refine ⟨rfl,cs,cl,x',y',d,rfl,h1,h2,k1,k2,rfl,k4,K4,q1,q3,Z5,?_⟩
      rcases Nat.lt_or_ge y' c.n with dE|JW
      ·exact dE
      ·have Z6:=Nat.ble_eq_true_of_le JW
       simp_all
    ·exact Qn hd
   ·exact Qn hd
theorem C4: ∀{l:List Oper},v8 l=true→ ∀o∈l,o.guard=none:=by
 intro l
 induction l with
 |nil=>intro _ o ho;cases ho
 |cons p l ih=>
  intro h o ho
  unfold v8 at h
  cases hg:p.guard with
  |none=>
   rw [hg] at h
   rcases List.mem_cons.1 ho with rfl|ho
   ·exact hg
   ·exact ih h o ho
  |some=>rw [hg] at h;cases h
theorem H2 (hG:Good P c) (uj:kR P c) (id:Nat) (ops:Array Oper):CO P c id ops:=by
 intro Z e st a w R K r Q h hK hQ
 unfold Jo at hK
 split at hK
 rotate_left
 ·exact zT (HK hG id ops) h hK hQ
 rename_i pre f bk hh x o1 o2 post Z7
 obtain ⟨dq,cs,cl,x',y,d,rfl,k1,k2,k3,k4,rfl,k5,k6,k7,k8,k9,Z8⟩:=Fe Z7
 simp only [List.reverse_nil,List.nil_append] at dq
 cases zG:v8 ops.toList with
 |false=>simp [zG] at hK
 |true=>
 simp only [zG,cond_true] at hK
 obtain ⟨std,Z9,hK⟩:=lP h hK
 have XW:=C4 zG
 have Vu:o1.guard=none:=XW o1 (by rw [dq];simp)
 have PK:o2.guard=none:=XW o2 (by rw [dq];simp)
 refine wp_region ?_
 have kK:ops.size=pre.length+(post.length+2):=by rw [←Array.length_toList,dq];simp
 have fP: ∀i,ops[i]? =(pre++o1::o2::post)[i]? :=fun i=>by rw [←dq,Array.getElem?_toList]
 have Qo:List.range ops.size=List.range pre.length++(pre.length::(pre.length+1)::((List.range post.length).map (· +(pre.length+2)))):=by
  rw [kK,List.range_add]
  congr 1
  rw [show post.length+2=2+post.length by omega,List.range_add]
  simp [List.range_succ]
  intros;omega
 rw [Qo]
 refine C3 hG (os:=pre) ?_ Z9 hK (.refl _ _ _) ?_
 ·apply List.ext_getElem?
  intro i
  simp only [List.getElem?_map]
  by_cases hi:i<pre.length
  ·rw [List.getElem?_range hi]
   simp only [Option.map_some,fP,List.getElem?_append_left hi]
   rw [List.getElem?_eq_getElem hi];rfl
  ·rw [List.getElem?_eq_none (by simp;omega),List.getElem?_eq_none (by omega)];rfl
 ·rintro a1 w1 ⟨e1,ca,s1,t1,eX⟩
  have hw:=Nv hG.fn (uj hh k7) k1 k2 k3 k4 k5 k6 k8 k9 Z8 s1 eX (P:=P) (Q:=Q)
  have o6:ops[pre.length]? =some o1:=by rw [fP];simp
  have Mj:ops[pre.length+1]? =some o2:=by rw [fP,List.getElem?_append_right (by omega)];simp
  rw [wpOps_cons]
  unfold wpOp
  simp only [o6,Region.wanted,Vu,if_true]
  left
  refine Oper.wp_mono ?_ hw
  intro a2 w2 U6
  rw [wpOps_cons]
  unfold wpOp
  simp only [Mj,Region.wanted,PK,if_true]
  left
  refine Oper.wp_mono ?_ U6
  rintro a3 w3 ⟨e3,ik,s3,t3,rN⟩
  rw [←List.append_nil ((List.range post.length).map (· +(pre.length+2)))]
  refine C3 hG (os:=post) ?_ s3 rN (t1.trans t3) ?_
  ·apply List.ext_getElem?
   intro i
   simp only [List.getElem?_map,List.map_map]
   by_cases hi:i<post.length
   ·rw [List.getElem?_range hi]
    simp only [Option.map_some,Function.comp,fP]
    rw [List.getElem?_append_right (by omega),show i+(pre.length+2)-pre.length=i+2 by omega]
    simp [List.getElem?_eq_getElem hi]
   ·rw [List.getElem?_eq_none (by simp;omega),List.getElem?_eq_none (by omega)];rfl
  ·intro a' w' ho
   exact hQ a' w' ho
end
end Dn
/-
  Open order with two operations that may be done either way round. Conditions: none.
-/
set_option linter.unusedSimpArgs false
set_option linter.unusedVariables false
namespace Dn
open Go
section
variable {P:Program} {ops:Array Oper} {Q:Exit→Act→World→Prop}
theorem z8 (A B:Nat):(yK ops A B).size=ops.size:=by simp [yK]
theorem xn (A B i:Nat):(yK ops A B)[i]? =(ops[i]?).map fun o=>if B=i then {o with after:=o.after.push ⟨A,.data⟩} else o:=by
 unfold yK
 rw [Array.getElem?_modify]
 by_cases h:B=i
 ·simp [h]
 ·cases ops[i]? <;>simp [h]
theorem Bv (A B:Nat) (tmps:Array Value):yielded (yK ops A B) tmps=yielded ops tmps:=by
 funext j
 unfold yielded
 rw [xn]
 cases ops[j]? with
 |none=>rfl
 |some o=>
  have e:(if B=j then {o with after:=o.after.push ⟨A,.data⟩} else o).dst=o.dst:=by split<;>rfl
  simp only [Option.map_some,Option.bind_some,e]
theorem H3 {A B i:Nat} {K:Act→World→Prop} {a:Act} {w:World} (h:wpOp P (yK ops A B) Q i K a w):wpOp P ops Q i K a w:=by
 unfold wpOp at h⊢
 rw [xn,Bv] at h
 cases hi:ops[i]? with
 |none=>rw [hi] at h;exact h
 |some o=>
  rw [hi] at h
  simp only [Option.map_some] at h
  by_cases hb:B=i
  ·rw [if_pos hb] at h;exact h
  ·rw [if_neg hb] at h;exact h
theorem Ff {A B i:Nat} {listed:Array Bool}:i∈Region.ready .any (yK ops A B) listed↔i∈Region.ready .any ops listed∧(i=B→listed.getD A false=true):=by
 unfold Region.ready
 rw [z8]
 simp only [List.mem_filter,List.mem_range,xn]
 cases hi:ops[i]? with
 |none=>simp
 |some o=>
  by_cases hb:B=i
  ·subst hb
   simp [Array.all_push,Region.binds]
   constructor
   ·rintro ⟨h1,h2,h3,h4⟩;exact ⟨⟨h1,h2,h3⟩,h4⟩
   ·rintro ⟨⟨h1,h2,h3⟩,h4⟩;exact ⟨h1,h2,h3,h4⟩
  ·have vq: ¬i=B:=fun e=>hb e.symm
   simp [hb,vq]
def OS (A B:Nat):Bool→List Nat→Prop
 |_,[]=>True
 |la,i::r=>(i=B→la=true)∧OS A B (la||decide (i=A)) r
theorem xp (A B:Nat): ∀L,OS A B true L
 |[]=>trivial
 |i::r=>⟨fun _=>rfl,by simpa using xp A B r⟩
theorem K5 {A B:Nat} (h:A≠B): ∀L,OS A B false L∨OS B A false L
 |[]=> .inl trivial
 |i::r=>by
  by_cases ha:i=A
  ·subst ha
   exact .inl ⟨fun e=>absurd e h,by simpa using xp i B r⟩
  ·by_cases hb:i=B
   ·subst hb
    exact .inr ⟨fun e=>absurd e ha,by simpa using xp i A r⟩
   ·rcases K5 h r with h1|h1
    ·exact .inl ⟨fun e=>absurd e hb,by simpa [ha] using h1⟩
    ·exact .inr ⟨fun e=>absurd e ha,by simpa [hb] using h1⟩
def jU (ops:Array Oper):List (Nat×Nat)→Array Oper
 |[]=>ops
 |p::E=>yK (jU ops E) p.1 p.2
theorem rS: ∀E,(jU ops E).size=ops.size
 |[]=>rfl
 |p::E=>by rw [jU,z8,rS E]
theorem xq {i:Nat} {K:Act→World→Prop} {a:Act} {w:World}: ∀E,wpOp P (jU ops E) Q i K a w→wpOp P ops Q i K a w
 |[],h=>h
 |_::E,h=>xq E (H3 h)
theorem pG {i:Nat} {listed:Array Bool}: ∀E,i∈Region.ready .any (jU ops E) listed↔i∈Region.ready .any ops listed∧ ∀p∈E,i=p.2→listed.getD p.1 false=true
 |[]=>by simp [jU]
 |p::E=>by
  rw [jU,Ff,pG E,List.forall_mem_cons]
  exact ⟨fun h=>⟨h.1.1,h.2,h.1.2⟩,fun h=>⟨⟨h.1,h.2.2⟩,h.2.1⟩⟩
theorem Fg {E:List (Nat×Nat)}: ∀(fuel t:Nat) (listed:Array Bool) (a:Act) (w:World),(∀p∈E,p.1<listed.size)→wpAny P .any (jU ops E) Q fuel listed a w→
 (∀p∈E,OS p.1 p.2 (listed.getD p.1 false) (Region.linearise.go .any ops fuel t listed []))→wpOps P ops Q (Region.linearise.go .any ops fuel t listed []) a w:=by
 intro fuel
 induction fuel with
 |zero=>intro t listed a w _ h _;simpa [Region.linearise.go,wpOps] using h.2
 |succ fuel ih=>
  intro t listed a w hs h hA
  obtain ⟨h₀,h₁⟩:=h
  simp only [Region.linearise.go] at hA⊢
  change wpOps P ops Q (match (Region.ready .any ops listed)[t%(Region.ready .any ops listed).length]? with
   |some i=>Region.linearise.go .any ops fuel (t/(Region.ready .any ops listed).length) (listed.setIfInBounds i true) [i]
   |none=>[].reverse) a w
  change∀p∈E,OS p.1 p.2 (listed.getD p.1 false) (match (Region.ready .any ops listed)[t%(Region.ready .any ops listed).length]? with
   |some i=>Region.linearise.go .any ops fuel (t/(Region.ready .any ops listed).length) (listed.setIfInBounds i true) [i]
   |none=>[].reverse) at hA
  cases hi:(Region.ready .any ops listed)[t%(Region.ready .any ops listed).length]? with
  |none=>
   have JX:Region.ready .any ops listed=[]:=by
    cases hr:Region.ready .any ops listed with
    |nil=>rfl
    |cons x xs=>
     rw [hr] at hi
     have dE:t%(x::xs).length<(x::xs).length:=Nat.mod_lt _ (by simp)
     simp at hi
     simp at dE
     omega
   have Tf:Region.ready .any (jU ops E) listed=[]:=by
    cases hr:Region.ready .any (jU ops E) listed with
    |nil=>rfl
    |cons x xs=>
     have:x∈Region.ready .any (jU ops E) listed:=by rw [hr];simp
     have:=((pG E).1 this).1
     rw [JX] at this;cases this
   simpa [wpOps] using h₀ Tf
  |some i=>
   rw [hi] at hA
   simp only [] at hA⊢
   rw [linearise_go_acc,List.reverse_singleton,List.singleton_append] at hA⊢
   rw [wpOps_cons]
   have Fh:=(pG E).2 ⟨List.mem_of_getElem? hi,fun p hp=>(hA p hp).1⟩
   refine wpOp_mono (fun a w hw=>ih _ _ a w (fun p hp=>by simpa using hs p hp) hw fun p hp=> ?_) (xq E (h₁ i Fh))
   have hg:(listed.setIfInBounds i true).getD p.1 false=(listed.getD p.1 false||decide (i=p.1)):=by
    rw [Array.getD_eq_getD_getElem?,Array.getD_eq_getD_getElem?,Array.getElem?_setIfInBounds]
    by_cases Ux:i=p.1
    ·subst Ux;simp [hs p hp]
    ·simp [Ux]
   rw [hg];exact (hA p hp).2
theorem xr {c:Ctx} (hG:Good P c) (vw:P.follows .mixedOrders=true) (uj:kR P c):xb P c:=by
 refine ⟨fun id ops=>H2 hG uj id ops,?_,?_⟩
 ·intro id ops l hd hp Z e st a w R K r Q h hK hQ
  refine Code.wp_mono ?_ (wp_region_any vw (C1 hG hd hp h hK))
  intro x a' w' hx
  cases x<;>first|exact hQ a' w' hx|exact hx.elim
 ·intro id ops k l Z e st a w R K r Q h hK hQ
  refine Code.wp_mono (Q:=na fun a' w'=>Out c Z K r e.φ w a' w') ?_ (wp_region_draw fun t=> ?_)
  ·intro x a' w' hx
   cases x<;>first|exact hQ a' w' hx|exact hx.elim
  simp only [Region.schedule,vw,Bool.true_or,if_true]
  have leaf: ∀(E:List (Nat×Nat)) (l:List Nat),(∀p∈E,p.1<ops.size)→F5 c (jU ops E) l st K=some r→(∀p∈E,OS p.1 p.2 false (Region.linearise.go .any ops ops.size t (Array.replicate ops.size false) []))→
   wpOps P ops (na fun a' w'=>Out c Z K r e.φ w a' w') (Region.linearise.go .any ops ops.size t (Array.replicate ops.size false) []) a {w with drawn:=w.drawn+1}:=by
   intro E l hE hK hA
   unfold F5 at hK
   cases hd:rH c (jU ops E) l with
   |false=>simp [hd] at hK
   |true=>
    simp only [hd,cond_true] at hK
    split at hK
    ·rename_i l1 hp
     have w1:=C1 hG hd hp h hK
     rw [rS] at w1
     exact Fg ops.size t _ a _ (by simpa using hE) w1 (fun p hp=>by simpa [hE p hp] using hA p hp)
    ·cases hK
  have key: ∀(k:Nat) (E:List (Nat×Nat)) (l:List Nat),(∀p∈E,p.1<ops.size)→Cn c st K k (jU ops E) l=some r→(∀p∈E,OS p.1 p.2 false (Region.linearise.go .any ops ops.size t (Array.replicate ops.size false) []))→
   wpOps P ops (na fun a' w'=>Out c Z K r e.φ w a' w') (Region.linearise.go .any ops ops.size t (Array.replicate ops.size false) []) a {w with drawn:=w.drawn+1}:=by
   intro k
   induction k with
   |zero=>intro E l _ hK;cases hK
   |succ k ih=>
    intro E l hE hK hA
    simp only [Cn] at hK
    cases hb:Nat.beq l.length (jU ops E).toList.length with
    |true=>
     simp only [hb,cond_true] at hK
     exact leaf E l hE hK hA
    |false=>
     simp only [hb,cond_false] at hK
     split at hK
     ·rename_i o1 o2 A B ht
      obtain ⟨q1,q2,q3⟩:=E4 ht
      have kK:(jU ops E).toList.length=ops.size:=by rw [Array.length_toList,rS]
      rw [kK] at q2 q3
      obtain ⟨k1,k2⟩:=HL hK
      rcases K5 q1 (Region.linearise.go .any ops ops.size t (Array.replicate ops.size false) []) with ho|ho
      ·exact leaf ((A,B)::E) o1 (List.forall_mem_cons.2 ⟨q2,hE⟩) k1 (List.forall_mem_cons.2 ⟨ho,hA⟩)
      ·exact ih ((B,A)::E) o2 (List.forall_mem_cons.2 ⟨q3,hE⟩) k2 (List.forall_mem_cons.2 ⟨ho,hA⟩)
     ·cases hK
  exact key k [] l (by simp) hK (by simp)
end
end Dn
/-
  Functions of the library, by hand: copies of slices. Conditions: none.
-/
set_option linter.unusedSimpArgs false
set_option linter.unusedVariables false
namespace Dn
open Go
section
variable {P:Program} {c:Ctx} {Q:Exit→Act→World→Prop} {ops:Array Oper} {o:Oper} {a:Act} {w w':World}
theorem Qp {i:Nat} {rest:List Nat} {v:Value} (hi:ops[i]? =some o) (hg:o.guard=none) (bx:(execOp a.eval o).run P w= .ok (.value v) w')
 (h:wpOps P ops Q rest (a.put o.dst v) w'):wpOps P ops Q (i::rest) a w:=by
 rw [wpOps_cons]
 unfold wpOp
 simp only [hi,Region.wanted,hg,if_true]
 left
 unfold Oper.wp
 rw [bx,Oper.upon_value];exact h
structure aE (o:Oper) (d:Nat) (op:Op):Prop where
 dst:o.dst=some d
 op:o.op=op
 guard:o.guard=none
end
end Dn
/-
  Tables of functions. Conditions: none.
-/
namespace Dn
open Go
structure aC (P:Program) (c:Ctx) (g:Nat→List MV→Option MV):Prop where
 all: ∀f ms r,g (c.key f) ms=some r→kN P c f ms r
abbrev bQ (n:Nat) (F:List MV→Option MV) (g:Nat→List MV→Option MV):Nat→List MV→Option MV:=fun k ms=>match Nat.beq k n with|true=>F ms|false=>g k ms
theorem aC.add {P:Program} {c:Ctx} {g:Nat→List MV→Option MV} {n:Nat} {F:List MV→Option MV} (h:aC P c g) (hF: ∀f ms r,c.key f=n→F ms=some r→kN P c f ms r):aC P c (bQ n F g):=by
 refine ⟨fun f ms r hr=> ?_⟩
 unfold bQ at hr
 cases hk:Nat.beq (c.key f) n with
 |true=>simp only [hk] at hr;exact hF f ms r (Nat.eq_of_beq_eq_true hk) hr
 |false=>simp only [hk] at hr;exact h.all f ms r hr
structure rT (c c':Ctx):Prop where
 ti:c'.ti=c.ti
 key:c'.key=c.key
 df:c'.df=c.df
 fresh:c'.fresh=c.fresh
 lF:c'.lF=c.lF
 fk:c'.fk=c.fk
 mt:c'.mt=c.mt
 sig:c'.sig=c.sig
 AS:c'.AS=c.AS
theorem bX.gX {c c':Ctx} (h:c'.ti=c.ti) {Z:aW} {e:Env} {w:World} {v:Value} {o:hH} (hs:bX c Z e w v o):bX c' Z e w v o:=by
 obtain ⟨I,cells,h1,h2⟩:=hs.row
 exact ⟨I,cells,by rw [h];exact h1,h2⟩
theorem jR.gX {c c':Ctx} (h:rT c c') {Z:Nat→Prop} {φ:Ph} {w:World} {k:Nat} {v:Value} {r:MV} (hs:jR c Z φ w k v r):jR c' Z φ w k v r:=by
 cases r<;>simp only [jR,h.key,h.lF] at hs⊢ <;>first|exact hs|exact hs.gX h.ti
theorem il.gX {c c':Ctx} (h:rT c c') {Z:Nat→Prop} {φ:Ph} {w:World} {aN:Nat} {ks:List LK} {ls:List MV} (hs:il c Z φ w aN ks ls):il c' Z φ w aN ks ls:=by
 obtain ⟨cs,m,E,arr,T,h1,h2,h3,h4,h5,h6,h7⟩:=hs
 refine ⟨cs,m,E,arr,T,h1,h2,h3,h4,by rw [h.key];exact h5,fun f o ho=>⟨?_,(h6 f o ho).2⟩,h7⟩
 rw [h.key]
 exact (h6 f o ho).1.gX h.ti
theorem ra.gX {c c':Ctx} (h:rT c c') {Z:Nat→Prop} {φ:Ph} {w:World} {k:Nat} {vs:List Value} {v:Value} {r:MV} (hs:ra c Z φ w k vs v r):ra c' Z φ w k vs v r:=by
 cases r<;>simp only [ra] at hs⊢ <;>first|exact hs.gX h|skip
 obtain ⟨h1,pos,ks,aN,off,h2,h3,h4⟩:=hs
 exact ⟨h1.gX h,pos,ks,aN,off,by rw [h.sig];exact h2,h3,h4.gX h⟩
theorem dS.gX {c c':Ctx} (h:rT c c') {Z:Nat→Prop} {φ:Ph} {w:World} {k:Nat} {vs:List Value} {ms:List MV} (hs:dS c' Z φ w k vs ms):dS c Z φ w k vs ms:=by
 unfold dS at hs⊢
 rw [h.df] at hs
 split
 ·rename_i hg
  rw [if_pos hg] at hs
  rcases hs with ⟨v0,v1,v2,xs,m1,ys,h1,h2,h3,h4,h5,h6⟩|⟨v0,v1,v2,xs,m1,m2,h1,h2,h3,h4,h5,h6⟩|⟨pos,ks,off,ls,aN,h1,h2,h3,h4,h5⟩
  ·rw [h.key,h.lF] at h3 h5
   rw [h.key] at h4
   exact .inl ⟨v0,v1,v2,xs,m1,ys,h1,h2,h3.gX h.ti.symm,h4,h5.gX h.ti.symm,h6⟩
  ·rw [h.key,h.lF] at h4
   rw [h.key] at h5 h6
   exact .inr (.inl ⟨v0,v1,v2,xs,m1,m2,h1,h2,h3,h4.gX h.ti.symm,h5,h6⟩)
  ·refine .inr (.inr ⟨pos,ks,off,ls,aN,by rw [←h.sig];exact h1,h2,h3,by rw [←h.key];exact h4,?_⟩)
   obtain ⟨cs,m,E,arr,T,k1,k2,k3,k4,k5,k6,k7⟩:=h5
   refine ⟨cs,m,E,arr,T,k1,k2,k3,k4,by rw [←h.key];exact k5,fun f o ho=>⟨?_,(k6 f o ho).2⟩,k7⟩
   rw [←h.key]
   exact (k6 f o ho).1.gX h.ti.symm
 ·rename_i hg
  rw [if_neg hg,h.key] at hs
  exact hs
theorem fh.mono {P:Program} {f:FuncId} {args:Array Value} {w:World} {R R':Value→World→Prop} (hc:fh P f args w R) (h: ∀v w',R v w'→R' v w'):fh P f args w R':=by
 unfold fh at hc⊢
 split
 ·rename_i dq
  rw [dq] at hc
  exact Calls.mono hc (fun x tX ⟨v,e,hr⟩=>⟨v,e,h v tX hr⟩)
 ·rename_i dq
  rw [dq] at hc
  exact h _ _ hc
 ·rename_i h1 h2
  split at hc
  ·rename_i dq;exact absurd dq (h1 _ _ _)
  ·rename_i dq;exact absurd dq (h2 _ _)
  ·exact hc
theorem kN.gX {P:Program} {c c':Ctx} {f:Nat} {ms:List MV} {r:MV} (h:rT c c') (hs:kN P c f ms r):kN P c' f ms r:=by
 intro φ w Z vs hz ha hi
 rw [h.key] at ha
 refine (hs φ w Z vs hz (ha.gX h) hi).mono ?_
 rintro v w' ⟨φ',h1,h2,h3⟩
 rw [h.key]
 exact ⟨φ',h1,h2,h3.gX h⟩
theorem rT.symm {c c':Ctx} (h:rT c c'):rT c' c:=⟨h.ti.symm,h.key.symm,h.df.symm,h.fresh.symm,h.lF.symm,h.fk.symm,h.mt.symm,h.sig.symm,h.AS.symm⟩
theorem rR.gX {P:Program} {c c':Ctx} (h:rT c c') {g:Nat} {lb:Array Value} {S:Type} {Inv:S→(Nat→Prop)→Ph→World→Prop} {step:S→MV→Option (Bool×S)} (hp:rR P c' g lb Inv step):rR P c g lb Inv step:=
 ⟨fun h1 h2 h3 h4 h5=>hp.call h1 h2 h3 (by rw [h.key];exact h4) h5,hp.frame,hp.mono⟩
theorem kR.gX {P:Program} {c c':Ctx} (h:rT c c') (hd:kR P c):kR P c':=by
 intro f hf
 rw [h.AS] at hf
 have hx:=hd f hf
 refine ⟨?_⟩
 intro S Inv step g lb hp v0 xs ys w Z0 φ0 s0 s' h1 h2 h3 h4 h5 h6 h7
 rw [h.key,h.lF] at h2
 refine (hx.run (hp.gX h) h1 (h2.gX h.ti.symm) h3 h4 h5 h6 h7).mono ?_
 rintro v W ⟨Z,φ,hW,hF,hb⟩
 refine ⟨Z,φ,⟨hW.inv,hW.new,hW.sub,hW.gE,hW.tr,hW.free⟩,?_,hb⟩
 rw [h.key,h.lF]
 exact hF.gX h.ti
def rh (c:Ctx) (n:Nat) (fn:Func) (bk:List (List Kd)):Bool:=
 !(fn.name== "runtime.NumGoroutine")&&Nat.beq c.n fn.ntmps&&Nat.ble (fn.params.size+bk.length) fn.ntmps&&!c.df n
def rU (c:Ctx) (n:Nat) (fn:Func):Option Nat→Bool
 |none=>true
 |some ty=>Nat.beq ty (c.lF n)&&(Nat.beq fn.results.toList.length 1&&(match c.tv ty with|some _=>true|none=>false))
theorem Aa {c:Ctx} {n:Nat} {fn:Func} {fresh:Option Nat} (h:rU c n fn fresh=true): ∀ty,fresh=some ty→ty=c.lF n∧fn.results.toList.length=1∧ ∃I,c.tv ty=some I:=by
 rintro ty rfl
 simp only [rU,Bool.and_eq_true] at h
 obtain ⟨h1,h2,h3⟩:=h
 refine ⟨Nat.eq_of_beq_eq_true h1,Nat.eq_of_beq_eq_true h2,?_⟩
 cases hc:c.tv ty with
 |none=>rw [hc] at h3;cases h3
 |some I=>exact ⟨I,rfl⟩
theorem aC.body {P:Program} {c c':Ctx} {g:Nat→List MV→Option MV} {n:Nat} {fn:Func} {bk:List (List Kd)} (h:aC P c g) (hl:rT c c') (Ny:c'.g=g) (iN:fc P c.ti) (dq:A5 P c.ti) (wo: ∀t k,c.fk t=some k→P.underlying t=some (.float k)) (Cb:pA P c) (vw:P.follows .mixedOrders=true) (uj:kR P c)
 (hf:P.funcs[n]? =some fn) (hh:rh c' n fn bk=true) (n6: ∀f,c.key f=f) {fresh:Option Nat} (vt:rU c' n fn fresh=true):aC P c (bQ n (zC c' bk fresh fn) g):=by
 have hG:Good P c':=by
  refine ⟨by rw [hl.ti];exact iN,by rw [hl.ti];exact dq,fun f ms r hr=> ?_,by rw [hl.fk];exact wo,fun t s hs=>Cb t s ?_⟩
  ·rw [Ny,hl.key] at hr
   exact (h.all f ms r hr).gX hl
  ·rw [←hs];unfold mu Ctx.tv;rw [hl.mt,hl.ti]
 refine h.add (fun f ms r hk hr=> ?_)
 rw [n6] at hk
 subst hk
 simp only [rh,Bool.and_eq_true,Bool.not_eq_true'] at hh
 obtain ⟨⟨⟨h1,h2⟩,h3⟩,h4⟩:=hh
 exact (Nb hG (xr hG vw (uj.gX hl)) hf h1 (Nat.eq_of_beq_eq_true h2) (Nat.le_of_ble_eq_true h3) (by rw [hl.key,n6];exact h4) (by rw [hl.key,n6];exact Aa vt) hr).gX hl.symm
def K6 (c:Ctx) (n:Nat) (fn:Func) (bk:List (List Kd)):Bool:=
 !(fn.name== "runtime.NumGoroutine")&&Nat.beq c.n fn.ntmps&&Nat.ble fn.ntmps 1000000&&Nat.ble (fn.params.size+bk.length) fn.ntmps&&c.df n
theorem aC.Tg {P:Program} {c:Ctx} {g:Nat→List MV→Option MV} {n pos:Nat} {ks:List LK} {fn:Func} {bk:List (List Kd)} {F:List MV→Option MV} (h:aC P c g) (iN:fc P c.ti) (dq:A5 P c.ti) (wo: ∀t k,c.fk t=some k→P.underlying t=some (.float k)) (Cb:pA P c) (vw:P.follows .mixedOrders=true) (uj:kR P c)
 (hf:P.funcs[n]? =some fn) (qP:c.sig n=some (pos,ks)) (n6: ∀f,c.key f=f) (hF: ∀{ms r},F ms=some r→ ∃c':Ctx,rT c c'∧c'.g=g∧K6 c' n fn bk=true∧F7 c' bk pos ks fn ms=some r):aC P c (bQ n F g):=by
 refine h.add (fun f ms r hk hr=> ?_)
 rw [n6] at hk
 subst hk
 obtain ⟨c',hl,Ny,hh,hr⟩:=hF hr
 have hG:Good P c':=by
  refine ⟨by rw [hl.ti];exact iN,by rw [hl.ti];exact dq,fun f ms r hr=> ?_,by rw [hl.fk];exact wo,fun t s hs=>Cb t s ?_⟩
  ·rw [Ny,hl.key] at hr
   exact (h.all f ms r hr).gX hl
  ·rw [←hs];unfold mu Ctx.tv;rw [hl.mt,hl.ti]
 simp only [K6,Bool.and_eq_true,Bool.not_eq_true'] at hh
 obtain ⟨⟨⟨⟨h1,h2⟩,EE⟩,h3⟩,h4⟩:=hh
 exact (KU hG (xr hG vw (uj.gX hl)) hf h1 (Nat.eq_of_beq_eq_true h2) (Nat.le_of_ble_eq_true EE) (Nat.le_of_ble_eq_true h3) (by rw [hl.key,n6];exact h4) (by rw [hl.sig,hl.key,n6];exact qP) hr).gX hl.symm
end Dn
/-
  Steps through a function of the library by hand. Conditions: none.
-/
set_option linter.unusedSimpArgs false
set_option linter.unusedVariables false
namespace Dn
open Go
def Th (σ:Nat→Value) (d:Nat) (v:Value):Nat→Value:=fun t=>bif Nat.beq t d then v else σ t
def ev (σ:Nat→Value):Operand→Value
 | .tmp t=>σ t
 | .const v=>v
 | .global g=> .pointer (some ⟨g,0,none⟩)
 | .func f=> .func (.func f) #[] #[]
structure Tm (a:Act) (n:Nat) (σ:Nat→Value):Prop where
 defers:a.defers=[]
 size:a.tmps.size=n
 get: ∀t,a.tmps.getD t undef=σ t
theorem Tm.eval {a:Act} {n:Nat} {σ:Nat→Value} (h:Tm a n σ):a.eval=ev σ:=by
 funext x
 cases x with
 |tmp t=>exact h.get t
 |_=>rfl
theorem Tm.put {a:Act} {n:Nat} {σ:Nat→Value} (h:Tm a n σ) {d:Nat} (hd:d<n) (v:Value):Tm (a.put (some d) v) n (Th σ d v):=by
 refine ⟨h.defers,by simp [Act.put,h.size],fun t=> ?_⟩
 show (a.tmps.setIfInBounds d v).getD t undef=bif Nat.beq t d then v else σ t
 by_cases ht:t=d
 ·subst ht
  have:t<a.tmps.size:=by rw [h.size];exact hd
  simp [this]
 ·have hb:Nat.beq t d=false:=by
   cases hq:Nat.beq t d with
   |false=>rfl
   |true=>exact absurd (Nat.eq_of_beq_eq_true hq) ht
  rw [hb]
  have:=h.get t
  simp only [Array.getD_eq_getD_getElem?,Array.getElem?_setIfInBounds_ne (Ne.symm ht),cond_false] at this⊢
  exact this
section
variable {P:Program} {Q:Exit→Act→World→Prop} {ops:Array Oper} {o:Oper} {a:Act} {w w':World} {n:Nat} {σ:Nat→Value}
theorem Tm.step {i d:Nat} {op:Op} {rest:List Nat} {v:Value} (H4:Tm a n σ) (hi:ops[i]? =some o) (ho:aE o d op) (hd:d<n) (bx:(execOp (ev σ) o).run P w= .ok (.value v) w')
 (h: ∀a',Tm a' n (Th σ d v)→wpOps P ops Q rest a' w'):wpOps P ops Q (i::rest) a w:=by
 refine Qp hi ho.guard (v:=v) (w':=w') (by rw [H4.eval];exact bx) ?_
 rw [ho.dst]
 exact h _ (H4.put hd v)
def C5 (ops:Array Oper):Nat→Nat→Array Bool→Bool
 |0,i,listed=>(Region.ready .any ops (listed.setIfInBounds i true)).isEmpty&&(Region.ready .any ops listed==[i])
 |k+1,i,listed=>Region.free .any ops listed i&&(Region.ready .any ops listed).contains i&&C5 ops k (i+1) (listed.setIfInBounds i true)
def OT (ops:Array Oper):Bool:=Region.noSelect ops&&Nat.blt 0 ops.size&&C5 ops (ops.size-1) 0 (Array.replicate ops.size false)
structure K7 (ops:Array Oper) (k i:Nat) (listed:Array Bool):Prop where
 sel:Region.noSelect ops=true
 ord:C5 ops k i listed=true
theorem Tm.draw {N:Act→World→Prop} {i d:Nat} {op:Op} {k:Nat} {listed:Array Bool} {v:Value} (H4:Tm a n σ) (hi:ops[i]? =some o) (ho:aE o d op) (hd:d<n) (hb:K7 ops (k+1) i listed) (bx: ∀w,(execOp (ev σ) o).run P w= .ok (.value v) w)
 (h: ∀a',Tm a' n (Th σ d v)→K7 ops k (i+1) (listed.setIfInBounds i true)→wpAny P .any ops (na N) (k+1) (listed.setIfInBounds i true) a' w):wpAny P .any ops (na N) (k+2) listed a w:=by
 obtain ⟨hs,hb⟩:=hb
 simp only [C5,Bool.and_eq_true] at hb
 obtain ⟨⟨h1,h2⟩,h3⟩:=hb
 refine wpAny_take hi hs h1 h2 (fun c a w hq=>hq.elim) (v:=v) (.inl ⟨by simp [Region.wanted,ho.guard],fun w=>by rw [H4.eval];exact bx w⟩) ?_
 rw [ho.dst]
 exact h _ (H4.put hd v) ⟨hs,h3⟩
theorem Tm.last {N:Act→World→Prop} {i d:Nat} {op:Op} {listed:Array Bool} {v:Value} (H4:Tm a n σ) (hi:ops[i]? =some o) (ho:aE o d op) (hd:d<n) (hb:K7 ops 0 i listed) (bx:(execOp (ev σ) o).run P w= .ok (.value v) w')
 (h: ∀a',Tm a' n (Th σ d v)→N a' w'):wpAny P .any ops (na N) 1 listed a w:=by
 obtain ⟨hs,hb⟩:=hb
 simp only [C5,Bool.and_eq_true,List.isEmpty_iff,beq_iff_eq] at hb
 obtain ⟨h1,h2⟩:=hb
 refine wpAny_all h2 (by simp) ?_
 intro j hj
 simp only [List.mem_singleton] at hj
 subst hj
 unfold wpOp
 simp only [hi,Region.wanted,ho.guard,if_true]
 left
 unfold Oper.wp
 rw [H4.eval,bx,Oper.upon_value,ho.dst]
 exact wpAny_done h1 (h _ (H4.put hd v)) 0
theorem Tm.cond {x:Operand} {b:Bool} {A B:Code} (H4:Tm a n σ) (hx:ev σ x= .bool b) (h:(if b then A else B).wp P Q a w):(Code.cond x A B).wp P Q a w:=by
 refine wp_cond (t:=b) (by rw [H4.eval];exact hx) h
end
end Dn
/-
  slices.Insert of the library, walked. Printed by a program. Conditions: none.
-/
set_option linter.unusedSimpArgs false
set_option linter.unusedVariables false
namespace Dn
open Go
structure V5 (t ti tb fo:Nat) (o:Nat→Oper):Prop where
 h0:aE (o 0) 6 (.assign (.const (.slice none 0 0)))
 h1:aE (o 1) 10 (.move (.tmp 0))
 h2:aE (o 2) 11 (.move (.tmp 1))
 h3:aE (o 3) 12 (.slice t (.tmp 10) (some (.tmp 11)) none none)
 h4:aE (o 4) 13 (.move (.tmp 2))
 h5:aE (o 5) 14 (.call {callee:= .builtin .len,args:= #[.tmp 13],argTypes:= #[t]})
 h6:aE (o 6) 7 (.assign (.tmp 14))
 h7:aE (o 7) 15 (.move (.tmp 7))
 h8:aE (o 8) 16 (.binOp .eql ti (.tmp 15) (.const (.int .i64 0)) ti)
 h9:aE (o 9) 17 (.move (.tmp 0))
 P3:aE (o 10) 6 (.assign (.tmp 17))
 V6:aE (o 11) 18 (.move (.tmp 0))
 V7:aE (o 12) 19 (.call {callee:= .builtin .len,args:= #[.tmp 18],argTypes:= #[t]})
 V8:aE (o 13) 8 (.assign (.tmp 19))
 V9:aE (o 14) 20 (.move (.tmp 1))
 Wa:aE (o 15) 21 (.move (.tmp 8))
 Wb:aE (o 16) 22 (.binOp .eql ti (.tmp 20) (.tmp 21) ti)
 Wc:aE (o 17) 23 (.move (.tmp 0))
 XX:aE (o 18) 24 (.move (.tmp 2))
 XY:aE (o 19) 25 (.call {callee:= .builtin .append,args:= #[.tmp 23,.tmp 24],argTypes:= #[t,t]})
 XZ:aE (o 20) 6 (.assign (.tmp 25))
 X0:aE (o 21) 26 (.move (.tmp 8))
 X1:aE (o 22) 27 (.move (.tmp 7))
 X2:aE (o 23) 28 (.binOp .add ti (.tmp 26) (.tmp 27) ti)
 X3:aE (o 24) 29 (.move (.tmp 0))
 X4:aE (o 25) 30 (.call {callee:= .builtin .cap,args:= #[.tmp 29],argTypes:= #[t]})
 X5:aE (o 26) 31 (.binOp .gtr ti (.tmp 28) (.tmp 30) ti)
 X6:aE (o 27) 32 (.move (.tmp 0))
 X7:aE (o 28) 33 (.move (.tmp 1))
 X8:aE (o 29) 34 (.slice t (.tmp 32) none (some (.tmp 33)) none)
 X9:aE (o 30) 35 (.move (.tmp 8))
 h31:aE (o 31) 36 (.move (.tmp 7))
 h32:aE (o 32) 37 (.binOp .add ti (.tmp 35) (.tmp 36) ti)
 h33:aE (o 33) 38 (.move (.tmp 1))
 h34:aE (o 34) 39 (.binOp .sub ti (.tmp 37) (.tmp 38) ti)
 h35:aE (o 35) 40 (.call {callee:= .builtin .append,args:= #[.tmp 34,.tmp 39],argTypes:= #[t,ti]})
 h36:aE (o 36) 9 (.assign (.tmp 40))
 h37:aE (o 37) 41 (.move (.tmp 9))
 h38:aE (o 38) 42 (.move (.tmp 1))
 h39:aE (o 39) 43 (.slice t (.tmp 41) (some (.tmp 42)) none none)
 Ya:aE (o 40) 44 (.move (.tmp 2))
 h41:aE (o 41) 45 (.call {callee:= .builtin .copy,args:= #[.tmp 43,.tmp 44],argTypes:= #[t,t]})
 h42:aE (o 42) 46 (.move (.tmp 9))
 h43:aE (o 43) 47 (.move (.tmp 1))
 h44:aE (o 44) 48 (.move (.tmp 7))
 h45:aE (o 45) 49 (.binOp .add ti (.tmp 47) (.tmp 48) ti)
 h46:aE (o 46) 50 (.slice t (.tmp 46) (some (.tmp 49)) none none)
 h47:aE (o 47) 51 (.move (.tmp 0))
 YY:aE (o 48) 52 (.move (.tmp 1))
 h49:aE (o 49) 53 (.slice t (.tmp 51) (some (.tmp 52)) none none)
 h50:aE (o 50) 54 (.call {callee:= .builtin .copy,args:= #[.tmp 50,.tmp 53],argTypes:= #[t,t]})
 h51:aE (o 51) 55 (.move (.tmp 9))
 h52:aE (o 52) 6 (.assign (.tmp 55))
 h53:aE (o 53) 56 (.move (.tmp 0))
 h54:aE (o 54) 57 (.move (.tmp 8))
 h55:aE (o 55) 58 (.move (.tmp 7))
 h56:aE (o 56) 59 (.binOp .add ti (.tmp 57) (.tmp 58) ti)
 h57:aE (o 57) 60 (.slice t (.tmp 56) none (some (.tmp 59)) none)
 h58:aE (o 58) 0 (.assign (.tmp 60))
 h59:aE (o 59) 61 (.move (.tmp 2))
 h60:aE (o 60) 62 (.move (.tmp 0))
 h61:aE (o 61) 63 (.move (.tmp 1))
 h62:aE (o 62) 64 (.move (.tmp 7))
 Xz:aE (o 63) 65 (.binOp .add ti (.tmp 63) (.tmp 64) ti)
 Wd:aE (o 64) 66 (.slice t (.tmp 62) (some (.tmp 65)) none none)
 h65:aE (o 65) 67 (.call {callee:= .value (.func fo),args:= #[.tmp 61,.tmp 66],argTypes:= #[t,t]})
 h66:aE (o 66) 68 (.unOp .not tb (.tmp 67))
 h67:aE (o 67) 69 (.move (.tmp 0))
 h68:aE (o 68) 70 (.move (.tmp 1))
 h69:aE (o 69) 71 (.move (.tmp 7))
 h70:aE (o 70) 72 (.binOp .add ti (.tmp 70) (.tmp 71) ti)
 h71:aE (o 71) 73 (.slice t (.tmp 69) (some (.tmp 72)) none none)
 h72:aE (o 72) 74 (.move (.tmp 0))
 h73:aE (o 73) 75 (.move (.tmp 1))
 h74:aE (o 74) 76 (.slice t (.tmp 74) (some (.tmp 75)) none none)
 h75:aE (o 75) 77 (.call {callee:= .builtin .copy,args:= #[.tmp 73,.tmp 76],argTypes:= #[t,t]})
 h76:aE (o 76) 78 (.move (.tmp 0))
 h77:aE (o 77) 79 (.move (.tmp 1))
 h78:aE (o 78) 80 (.slice t (.tmp 78) (some (.tmp 79)) none none)
 h79:aE (o 79) 81 (.move (.tmp 2))
 h80:aE (o 80) 82 (.call {callee:= .builtin .copy,args:= #[.tmp 80,.tmp 81],argTypes:= #[t,t]})
 h81:aE (o 81) 83 (.move (.tmp 0))
 h82:aE (o 82) 6 (.assign (.tmp 83))
 d11:OT #[o 42,o 43,o 44,o 45,o 46,o 47,o 48,o 49,o 50]=true
 d15:OT #[o 67,o 68,o 69,o 70,o 71,o 72,o 73,o 74,o 75]=true
section
variable {P:Program} {f t ti tb el fo:Nat} {fn:Func} {r:Nat→Nat} {o:Nat→Oper} {tail:Code} {ie:TypeInfo} {size n m c c2 i g g2:Nat} {ad:Option Addr} {w:World}
end
end Dn
/-
  What slices.Insert does to a slice of its own. Conditions: none.
-/
set_option linter.unusedSimpArgs false
set_option linter.unusedVariables false
namespace Dn
open Go
section
variable {key:Nat→Nat} {φ:Ph} {size:Nat}
theorem aS.take {xs:List MV}: ∀{cs:List Value} (i:Nat),aS key φ size cs xs→aS key φ size (cs.take (i *size)) (xs.take i):=by
 induction xs with
 |nil=>intro cs i h;cases h;simp [aS]
 |cons x xs ih=>
  intro cs i h
  obtain ⟨v,q,rfl,h1,h2,h3⟩:=h
  cases i with
  |zero=>simp [aS]
  |succ i=>
   refine ⟨v,q.take (i *size),?_,h1,h2,ih i h3⟩
   rw [Nat.add_mul,Nat.one_mul,Nat.add_comm,List.take_append,h1]
   congr 1
   ·exact List.take_of_length_le (by omega)
   ·congr 1;omega
theorem aS.drop {xs:List MV}: ∀{cs:List Value} (i:Nat),aS key φ size cs xs→aS key φ size (cs.drop (i *size)) (xs.drop i):=by
 induction xs with
 |nil=>intro cs i h;cases h;simp [aS]
 |cons x xs ih=>
  intro cs i h
  cases i with
  |zero=>simpa using h
  |succ i=>
   obtain ⟨v,q,rfl,h1,h2,h3⟩:=h
   have:=ih i h3
   rw [Nat.add_mul,Nat.one_mul,Nat.add_comm,List.drop_append,h1,List.drop_of_length_le (by omega),List.nil_append,Nat.add_sub_cancel_left]
   simpa using this
end
section
variable {P:Program} {c:Ctx} {f:Nat} {W W':World} {φ:Ph} {Z:Nat→Prop} {v0 v':Value}
end
end Dn
/-
  slices.Delete of the library, walked. Conditions: none.
-/
set_option linter.unusedSimpArgs false
set_option linter.unusedVariables false
namespace Dn
open Go
structure GH (o:Oper) (op:Op):Prop where
 dst:o.dst=none
 op:o.op=op
 guard:o.guard=none
section
variable {P:Program} {Q:Exit→Act→World→Prop} {ops:Array Oper} {o:Oper} {a:Act} {w w':World} {n:Nat} {σ:Nat→Value}
def K8 (ops:Array Oper):Nat→Nat→Array Bool→Bool
 |0,i,listed=>(Region.ready .any ops listed==[i])&&(Region.ready .any ops (listed.setIfInBounds i true)==[i+1])&&(Region.ready .any ops ((listed.setIfInBounds i true).setIfInBounds (i+1) true)).isEmpty
 |k+1,i,listed=>Region.free .any ops listed i&&(Region.ready .any ops listed).contains i&&K8 ops k (i+1) (listed.setIfInBounds i true)
def Qq (ops:Array Oper):Bool:=Region.noSelect ops&&Nat.blt 1 ops.size&&K8 ops (ops.size-2) 0 (Array.replicate ops.size false)
end
structure We (t ti:Nat) (o:Nat→Oper):Prop where
 h0:aE (o 0) 6 (.assign (.const (.slice none 0 0)))
 h1:aE (o 1) 8 (.move (.tmp 0))
 h2:aE (o 2) 9 (.move (.tmp 1))
 h3:aE (o 3) 10 (.move (.tmp 2))
 h4:aE (o 4) 11 (.move (.tmp 0))
 h5:aE (o 5) 12 (.call {callee:= .builtin .len,args:= #[.tmp 11],argTypes:= #[t]})
 h6:aE (o 6) 13 (.slice t (.tmp 8) (some (.tmp 9)) (some (.tmp 10)) (some (.tmp 12)))
 h7:aE (o 7) 14 (.move (.tmp 1))
 h8:aE (o 8) 15 (.move (.tmp 2))
 h9:aE (o 9) 16 (.binOp .eql ti (.tmp 14) (.tmp 15) ti)
 P3:aE (o 10) 17 (.move (.tmp 0))
 V6:aE (o 11) 6 (.assign (.tmp 17))
 V7:aE (o 12) 18 (.move (.tmp 0))
 V8:aE (o 13) 19 (.call {callee:= .builtin .len,args:= #[.tmp 18],argTypes:= #[t]})
 V9:aE (o 14) 7 (.assign (.tmp 19))
 Wa:aE (o 15) 20 (.move (.tmp 0))
 Wb:aE (o 16) 21 (.move (.tmp 1))
 Wc:aE (o 17) 22 (.slice t (.tmp 20) none (some (.tmp 21)) none)
 XX:aE (o 18) 23 (.move (.tmp 0))
 XY:aE (o 19) 24 (.move (.tmp 2))
 XZ:aE (o 20) 25 (.slice t (.tmp 23) (some (.tmp 24)) none none)
 X0:aE (o 21) 26 (.call {callee:= .builtin .append,args:= #[.tmp 22,.tmp 25],argTypes:= #[t,t]})
 X1:aE (o 22) 0 (.assign (.tmp 26))
 X2:aE (o 23) 27 (.move (.tmp 0))
 X3:aE (o 24) 28 (.move (.tmp 0))
 X4:aE (o 25) 29 (.call {callee:= .builtin .len,args:= #[.tmp 28],argTypes:= #[t]})
 X5:aE (o 26) 30 (.move (.tmp 7))
 X6:aE (o 27) 31 (.slice t (.tmp 27) (some (.tmp 29)) (some (.tmp 30)) none)
 X7:GH (o 28) (.call {callee:= .builtin .clear,args:= #[.tmp 31],argTypes:= #[t]})
 X8:aE (o 29) 32 (.move (.tmp 0))
 X9:aE (o 30) 6 (.assign (.tmp 32))
 d5:Qq #[o 15,o 16,o 17,o 18,o 19,o 20,o 21,o 22]=true
section
variable {P:Program} {f t ti el:Nat} {fn:Func} {r:Nat→Nat} {o:Nat→Oper} {ie:TypeInfo} {size n c i j g:Nat} {ad:Option Addr} {w:World}
end
section
variable {P:Program} {c:Ctx} {f:Nat}
end
end Dn
/-
  slices.IndexFunc and slices.DeleteFunc of the library, walked, with whatever function. Conditions: none.
-/
set_option linter.unusedSimpArgs false
set_option linter.unusedVariables false
namespace Dn
open Go
section
variable {P:Program} {Q:Exit→Act→World→Prop} {ops:Array Oper} {o:Oper} {a:Act} {w w':World} {n:Nat} {σ:Nat→Value}
theorem Tm.call {i d:Nat} {op:Op} {rest:List Nat} {f:Nat} {args:Array Value} {Rp:Value→World→Prop} (H4:Tm a n σ) (hi:ops[i]? =some o) (ho:aE o d op) (hd:d<n)
 (bx:(execOp (ev σ) o).run P w=(callFunc f args).run P w) (hc:fh P f args w Rp) (h: ∀v w' a',Rp v w'→Tm a' n (Th σ d v)→wpOps P ops Q rest a' w'):wpOps P ops Q (i::rest) a w:=by
 rw [wpOps_cons]
 unfold wpOp
 simp only [hi,Region.wanted,ho.guard,if_true]
 left
 refine mV (by rw [H4.eval];exact bx) hc ?_
 intro v w' hr
 rw [ho.dst]
 exact h v w' _ hr (H4.put hd v)
end
structure Wf (t el ti:Nat) (o:Nat→Oper):Prop where
 h0:aE (o 0) 4 (.assign (.const (.int .i64 0)))
 h1:aE (o 1) 6 (.move (.tmp 0))
 h2:aE (o 2) 7 (.call {callee:= .builtin .len,args:= #[.tmp 6],argTypes:= #[t]})
 h3:aE (o 3) 8 (.move (.const (.int .i64 0)))
 h4:aE (o 4) 9 (.binOp .lss ti (.tmp 8) (.tmp 7) ti)
 h5:aE (o 5) 10 (.move (.tmp 8))
 h6:aE (o 6) 5 (.assign (.tmp 10))
 h7:aE (o 7) 11 (.move (.tmp 1))
 h8:aE (o 8) 12 (.move (.tmp 0))
 h9:aE (o 9) 13 (.move (.tmp 5))
 P3:aE (o 10) 14 (.indexAddr t (.tmp 12) (.tmp 13))
 V6:aE (o 11) 15 (.load el (.tmp 14))
 V7:aE (o 12) 16 (.call {callee:= .value (.tmp 11),args:= #[.tmp 15],argTypes:= #[el]})
 V8:aE (o 13) 17 (.move (.tmp 5))
 V9:aE (o 14) 4 (.assign (.tmp 17))
 Wa:aE (o 15) 18 (.binOp .add ti (.tmp 8) (.const (.int .i64 1)) ti)
 Wb:aE (o 16) 8 (.move (.tmp 18))
 Wc:aE (o 17) 4 (.assign (.const (.int .i64 (-1))))
section
variable {P:Program} {c:Ctx} {f t ti el:Nat} {fn:Func} {r:Nat→Nat} {o:Nat→Oper} {E:TI} {n cp g0 g:Nat} {ad:Option Addr} {ob:Option Nat} {w:World} {lb:Array Value} {S:Type} {Inv:S→(Nat→Prop)→Ph→World→Prop} {step:S→MV→Option (Bool×S)}
end
end Dn
/-
  slices.DeleteFunc of the library, walked, with whatever function. Conditions: none.
-/
set_option linter.unusedSimpArgs false
set_option linter.unusedVariables false
namespace Dn
open Go
structure Uy (t el ti tb fu fi:Nat) (o:Nat→Oper):Prop where
 h0:aE (o 0) 4 (.assign (.const (.slice none 0 0)))
 h1:aE (o 1) 8 (.move (.tmp 0))
 h2:aE (o 2) 9 (.move (.tmp 1))
 h3:aE (o 3) 10 (.call {callee:= .value (.func fi),args:= #[.tmp 8,.tmp 9],argTypes:= #[t,fu]})
 h4:aE (o 4) 5 (.assign (.tmp 10))
 h5:aE (o 5) 11 (.move (.tmp 5))
 h6:aE (o 6) 12 (.binOp .eql ti (.tmp 11) (.const (.int .i64 (-1))) ti)
 h7:aE (o 7) 13 (.move (.tmp 0))
 h8:aE (o 8) 4 (.assign (.tmp 13))
 h9:aE (o 9) 14 (.move (.tmp 5))
 P3:aE (o 10) 15 (.binOp .add ti (.tmp 14) (.const (.int .i64 1)) ti)
 V6:aE (o 11) 6 (.assign (.tmp 15))
 V7:aE (o 12) 16 (.move (.tmp 6))
 V8:aE (o 13) 17 (.move (.tmp 0))
 V9:aE (o 14) 18 (.call {callee:= .builtin .len,args:= #[.tmp 17],argTypes:= #[t]})
 Wa:aE (o 15) 19 (.binOp .lss ti (.tmp 16) (.tmp 18) ti)
 Wb:aE (o 16) 22 (.move (.tmp 0))
 Wc:aE (o 17) 23 (.move (.tmp 6))
 XX:aE (o 18) 24 (.indexAddr t (.tmp 22) (.tmp 23))
 XY:aE (o 19) 25 (.load el (.tmp 24))
 XZ:aE (o 20) 7 (.alloc el)
 X0:GH (o 21) (.store el (.tmp 7) (.tmp 25))
 X1:aE (o 22) 26 (.move (.tmp 1))
 X2:aE (o 23) 27 (.load el (.tmp 7))
 X3:aE (o 24) 28 (.call {callee:= .value (.tmp 26),args:= #[.tmp 27],argTypes:= #[el]})
 X4:aE (o 25) 29 (.unOp .not tb (.tmp 28))
 X5:aE (o 26) 30 (.move (.tmp 0))
 X6:aE (o 27) 31 (.move (.tmp 5))
 X7:aE (o 28) 32 (.load el (.tmp 7))
 X8:aE (o 29) 33 (.indexAddr t (.tmp 30) (.tmp 31))
 X9:GH (o 30) (.store el (.tmp 33) (.tmp 32))
 h31:aE (o 31) 34 (.move (.tmp 5))
 h32:aE (o 32) 35 (.binOp .add ti (.tmp 34) (.const (.int .i64 1)) ti)
 h33:aE (o 33) 5 (.assign (.tmp 35))
 h34:aE (o 34) 20 (.move (.tmp 6))
 h35:aE (o 35) 21 (.binOp .add ti (.tmp 20) (.const (.int .i64 1)) ti)
 h36:aE (o 36) 6 (.assign (.tmp 21))
 h37:aE (o 37) 36 (.move (.tmp 0))
 h38:aE (o 38) 37 (.move (.tmp 5))
 h39:aE (o 39) 38 (.slice t (.tmp 36) (some (.tmp 37)) none none)
 Ya:GH (o 40) (.call {callee:= .builtin .clear,args:= #[.tmp 38],argTypes:= #[t]})
 h41:aE (o 41) 39 (.move (.tmp 0))
 h42:aE (o 42) 40 (.move (.tmp 5))
 h43:aE (o 43) 41 (.slice t (.tmp 39) none (some (.tmp 40)) none)
 h44:aE (o 44) 4 (.assign (.tmp 41))
section
variable {P:Program} {c:Ctx} {f fi t ti tb fu el:Nat} {fn fni:Func} {r ri:Nat→Nat} {o oi:Nat→Oper} {E:TI} {cp g0 g:Nat} {ad:Option Addr} {ob:Option Nat} {w W W2:World} {lb:Array Value} {S:Type} {Inv:S→(Nat→Prop)→Ph→World→Prop} {step:S→MV→Option (Bool×S)} {Z0 Z:Nat→Prop} {φ0 φ:Ph} {s:S}
theorem Nu.move (hp:rR P c g lb Inv step) (hW:Nu c ob Inv Z0 φ0 w s Z φ W) (kK:W.heap.size≤W2.heap.size) (kM: ∀b,b<W.heap.size→ob≠some b→W2.heap[b]? =W.heap[b]?) (z1:Rest W W2) (Tb: ∀b,ob=some b→ ¬Z b):
 Nu c ob Inv Z0 φ0 w s (fun b=>(Z b∧b<W.heap.size)∨W2.heap.size≤b) φ W2:=by
 have hws:=hW.tr.size
 refine ⟨hp.mono (hp.frame hW.inv kK fun b hz hb=>kM b hb (fun e=>Tb b e hz)) fun b hb=> .inl hb,fun b hb=> .inr hb,fun b hb=> ?_,fun b off v hv=> ?_,?_,hW.free⟩
 ·rcases hb with hb|hb
  ·exact hW.sub b hb.1
  ·exact .inr (by omega)
 ·have h1:=hW.gE b off v hv
  have dE:=World.block_lt_of_cell? W _ h1
  have cz:ob≠some b:=by intro e;rw [hW.free b off e] at hv;cases hv
  rw [World.cell?_of_block (kM b dE cz)]
  exact h1
 ·refine hW.tr.trans ⟨.refl _,fun b hb dE=> ?_,fun _ _ _=>rfl,kK,z1⟩
  exact kM b dE (fun e=>hb (.inr e))
end
end Dn
/-
  Going through a map, in whatever order; a label at the end of a scope. Conditions: none.
-/
set_option linter.unusedSimpArgs false
set_option linter.unusedVariables false
namespace Dn
open Go
def pH {R:Type} (x:Option (Sum Unit R)):Bool:=match x with|some (.inl _)=>true|_=>false
def mD {α R:Type} (f:α→Option (Sum Unit R)) (d:Option R):List α→Option R
 |[]=>d
 |x::xs=>match f x with
  |some (.inl _)=>mD f d xs
  |some (.inr r)=>bif xs.all fun y=>pH (f y) then some r else none
  |none=>none
structure IY where
 i1:Nat
 o1:Array Oper
 a1:Oper
 b1:Oper
 x:Operand
 d1:Nat
 t:Nat
 d2:Nat
 k:Nat
 i2:Nat
 o2:Array Oper
 a2:Oper
 r2:List Oper
 cx:Operand
 kx:Nat
 k5:Nat
 i3:Nat
 o3:Array Oper
 a3:Oper
 r3:List Oper
 rest:Code
def IY.body (q:IY):Code:= .seq (.region q.i2 q.o2 false) (.seq (.cond q.cx .skip (.exit q.kx)) (.block q.k5 (.seq (.region q.i3 q.o3 false) q.rest)))
def IY.code (q:IY):Code:= .seq (.region q.i1 q.o1 false) (.block q.k (.loop q.body))
def isNone {α:Type}:Option α→Bool
 |none=>true
 |some _=>false
def Ti (o:Oper):Option Operand:=match o.op with| .move x=>some x|_=>none
def Tj (o:Oper) (d:Nat):Option Nat:=match o.op with| .range t (.tmp y)=>bif Nat.beq y d then some t else none|_=>none
def Qr (o:Oper) (d:Nat):Bool:=match o.op with| .next (.tmp y) false=>Nat.beq y d|_=>false
def Qs (o:Oper) (d:Nat):Bool:=match o.op with| .entry (.tmp y)=>Nat.beq y d|_=>false
def GI (code:Code):Option IY:=match code with
 | .seq (.region i1 o1 false) (.block k (.loop (.seq (.region i2 o2 false) (.seq (.cond cx .skip (.exit kx)) (.block k5 (.seq (.region i3 o3 false) rest))))))=>
  (match o1.toList,o2.toList,o3.toList with
  |[a1,b1],a2::r2,a3::r3=>(match Ti a1,a1.dst,b1.dst with
   |some x,some d1,some d2=>(match Tj b1 d1 with
    |some t=>bif Qr a2 d2&&(Qs a3 d2&&(isNone a1.guard&&(isNone b1.guard&&(isNone a2.guard&&isNone a3.guard)))) then
     some ⟨i1,o1,a1,b1,x,d1,t,d2,k,i2,o2,a2,r2,cx,kx,k5,i3,o3,a3,r3,rest⟩ else none
    |none=>none)
   |_,_,_=>none)
  |_,_,_=>none)
 |_=>none
def C6 {R:Type} (m:MV) (K:List UInt8→Int→Option R):Option R:=
 gT m fun l=>gC l fun ka r=>gA ka fun ks=>gC ks fun k0 kr=>gN kr<|gS k0 fun key=>gC r fun v0 vr=>gN vr<|gI .i64 v0 fun n=>K key n
noncomputable def Nz (c:Ctx) (q:IY) (st:St) (m:MV):Option (Sum Unit (Nat×List MV)):=
 C6 m fun key n=>aH c st q.a2.dst (.cN [.sc (.p (.b true)),.sc (.p (.s key)),.sc (.p (.i .i64 n))]) fun st=>nN c q.o2.toList q.r2 st fun st=>(match aq c st q.cx with
  | .sc (.p (.b true))=>aH c st q.a3.dst (.cN [.sc (.p (.s key)),.sc (.p (.i .i64 n))]) fun st=>nN c q.o3.toList q.r3 st fun st=>
   eD c q.rest (Sum Unit (Nat×List MV)) st fun e st=>bif Nat.beq e 0||Nat.beq e (q.k5+2) then some (.inl ()) else fJ st [] ((c.pe q.i2).ex e) fun vs=>some (.inr (e,vs))
  |_=>none)
def Qt (c:Ctx) (q:IY) (st:St):Option (Nat×List MV):=
 aH c st q.a2.dst (.cN [.sc (.p (.b false))]) fun st=>nN c q.o2.toList q.r2 st fun st=>(match aq c st q.cx with
  | .sc (.p (.b false))=>fJ st [] ((c.pe q.i2).ex (q.kx+2)) fun vs=>some (q.kx+2,vs)
  |_=>none)
noncomputable def Qu (c:Ctx) (q:IY) {R:Type} (st:St) (K:Nat→St→Option R):Option R:=
 aH c st (some q.d1) (aq c st q.x) fun st=>match aq c st (.tmp q.d1),mu c q.t with
  | .oX root,some s0=>(match ah st.fr root with
   | .box [.mp s _]=>bif pc root||!Oa s s0 then none else
    aH c st (some q.d2) (.sc .un) fun st=>tP c (c.pe q.i2) st fun _ ch=>(match (c.pe q.i2).outs,ah ch.fr root with
     |[],.box [.mp s2 es]=>bif s2.st||(!sn s2.lay [.s]||(s2.b||!aT ch.bt q.d2)) then none else
      bd (mD (Nz c q ch) (Qt c q ch) es) fun r=>G8 (minus (eM q.body) [0]) r.1 fun e=>fT (nP st ch) ((c.pe q.i2).ex e) r.2 fun st=>K (bif Nat.beq e (q.k+2) then 0 else e) st
     |_,_=>none)
   |_=>none)
  |_,_=>none
def K9 (a b:Code):Option Nat:=match a,b with
 | .goto l,.skip=>some l
 |_,_=>none
noncomputable def xt (c:Ctx) {R:Type} (l:Nat) (G:St→Option R):Code→St→(Nat→St→Option R)→Option R
 | .seq a b,st,K=>xt c l G a st fun e st=>bif Nat.beq e 0 then xt c l G b st K else K e st
 | .cond x a b,st,K=>(match K9 a b with
  |some l'=>bif Nat.beq l' l then (match aq c st x with| .sc (.p (.b v))=>ba v (G st) (K 0 st)|_=>none) else none
  |none=>eD c (.cond x a b) R st K)
 | .label _,st,K=>K 0 st
 |code,st,K=>eD c code R st K
noncomputable def vc (c:Ctx) {R:Type}:Code→St→(Nat→St→Option R)→Option R
 | .seq a b,st,K=>(match GI a with
  |some q=>Qu c q st fun e st=>bif Nat.beq e 0 then vc c b st K else K e st
  |none=>eD c a R st fun e st=>bif Nat.beq e 0 then vc c b st K else K e st)
 | .scope b,st,K=>(match findLabel b 0 with
  |some rest=>xt c 0 (fun st=>eD c rest R st K) b st K
  |none=>none)
 |code,st,K=>eD c code R st K
noncomputable def C7 (c:Ctx) (bk:List (List Kd)) (fresh:Option Nat) (f:Func) (args:List MV):Option MV:=F8 (fun b st K=>vc c b st K) c bk fresh f args
theorem C8 {α R:Type} {f:α→Option (Sum Unit R)} {d:Option R} {r:R}: ∀{es:List α},mD f d es=some r→(∀m∈es,f m=some (.inl ())∨f m=some (.inr r))∧((∀m∈es,f m=some (.inl ()))→d=some r):=by
 intro es
 induction es with
 |nil=>intro h;exact ⟨by simp,fun _=>h⟩
 |cons x xs ih=>
  intro h
  simp only [mD] at h
  split at h
  ·rename_i u hx
   obtain ⟨h1,h2⟩:=ih h
   refine ⟨fun m hm=> ?_,fun hm=>h2 fun m hx=>hm m (List.mem_cons_of_mem _ hx)⟩
   rcases List.mem_cons.1 hm with rfl|hm
   ·exact .inl hx
   ·exact h1 m hm
  ·rename_i r' hx
   cases ha:xs.all fun y=>pH (f y) with
   |false=>rw [ha] at h;cases h
   |true=>
    rw [ha] at h
    simp only [cond_true,Option.some.injEq] at h
    subst h
    refine ⟨fun m hm=> ?_,fun hm=> ?_⟩
    ·rcases List.mem_cons.1 hm with rfl|hm
     ·exact .inr hx
     ·rw [List.all_eq_true] at ha
      have:=ha m hm
      unfold pH at this
      split at this
      ·rename_i u hu;exact .inl hu
      ·cases this
    ·have:=hm x (by simp)
     rw [hx] at this;cases this
  ·cases h
section
variable {P:Program} {c:Ctx} {Z Zb Zi:aW} {e e' e3:Env} {st bc ik B:St} {a a':Act} {w w':World} {R:Type} {r:R} {Q:Exit→Act→World→Prop} {o:Oper} {hn:iR}
def aW.cv (Z:aW) (g:Nat):aW:={Z with In:=fun b=>Z.In b∧b≠g}
theorem ef.Tk {g:Nat} (j:ef c Zb Zi e B hn a w) (hg:g<w.heap.size):ef c Zb (Zi.cv g) e B hn a w:=
 ⟨j.iZ,fun b hb=>j.sub b hb.1,fun b hb=>⟨j.new b hb,by omega⟩,j.bt,j.T,j.keys,fun t cs ht hz=>j.box t cs ht hz.1,fun f o b ho hb hz=>j.dn f o b ho hb hz.1,j.Kt,j.HF,j.ptr,j.IV⟩
theorem ef.OU {g:Nat} (j:ef c Zi Zi e B hn a w) (hg:g<w.heap.size):bj c (Zi.cv g) e B a w:=by
 have h:=j.iZ
 have hm:e.m=B.az:=h.m
 have:=h.sub (Zi:=Zi.cv g) (bc:=B) (fun _ h=>h) ⟨h.defers.2.1,h.defers.2.2.1,h.defers.2.2.2⟩ h.nodup (fun t=> .inr ⟨j.ptr t,.inl rfl⟩) (fun f o ho=>⟨o,ho,rfl,rfl,id⟩)
  (by
   intro t cs ht
   have hs:=h.slot t
   rw [ht] at hs
   rcases hs.2.bC with h1|h1
   ·exact .inl h1
   ·exact absurd h1 (j.box t cs ht))
  (by
   intro f o b ho hb
   obtain ⟨I,cells,_,_,_,_,g5⟩:=(h.dn f o ho).row
   rcases (g5 b hb).1 with h1|h1
   ·exact .inl h1
   ·exact absurd h1 (j.dn f o b ho hb))
  (by
   intro f o I cells b ho hp hz hI cq hb k hk
   obtain ⟨I',A6,g1,_,g3,_,g5⟩:=(h.dn f o ho).row
   rw [hI] at g1
   cases g1
   rw [lK cq g3 hb] at hk⊢
   exact (g5 b hb).2.2 hp hz k hk)
  (fun b hb=>⟨j.new b hb,by omega⟩)
 have he:{e with m:=B.az}=e:=by cases e;simp at hm⊢;exact hm.symm
 rw [he] at this
 exact this
theorem Bw {d:Nat} {s:Slot} {K:St→Option R} (hK:aH c st (some d) s K=some r):bI (ah st.fr d)=false∧d∉st.bt∧d<c.n:=by
 simp only [aH] at hK
 cases qX:pc d||(Nat.ble c.n d||bI (ah st.fr d)) with
 |true=>simp [qX] at hK
 |false=>
  obtain ⟨_,hb⟩:=Bool.or_eq_false_iff.1 qX
  obtain ⟨qn,nY⟩:=Bool.or_eq_false_iff.1 hb
  simp only [qX,cond_false,wr] at hK
  cases hp:aT st.bt d with
  |true=>simp [hp] at hK
  |false=>
   refine ⟨nY,fun hm=> ?_,?_⟩
   ·rw [←aU,hp] at hm;cases hm
   ·by_cases hh:d<c.n
    ·exact hh
    ·rw [Nat.ble_eq_true_of_le (by omega)] at qn;cases qn
theorem Fi {code:Code} {q:IY} (h:GI code=some q):code=q.code∧q.o1.toList=[q.a1,q.b1]∧q.o2.toList=q.a2::q.r2∧q.o3.toList=q.a3::q.r3∧q.a1.op= .move q.x∧q.a1.dst=some q.d1∧
 q.b1.op= .range q.t (.tmp q.d1)∧q.b1.dst=some q.d2∧q.a2.op= .next (.tmp q.d2) false∧q.a3.op= .entry (.tmp q.d2)∧q.a1.guard=none∧q.b1.guard=none∧q.a2.guard=none∧q.a3.guard=none:=by
 have hN: ∀{α:Type} {x:Option α},isNone x=true→x=none:=by intro α x hx;cases x<;>first|rfl|cases hx
 unfold GI at h
 split at h
 ·rename_i i1 o1 k i2 o2 cx kx k5 i3 o3 rest
  split at h
  ·rename_i a1 b1 a2 r2 a3 r3 e1 e2 e3
   split at h
   ·rename_i x d1 d2 g1 g2 g3
    split at h
    ·rename_i t g4
     cases hb:Qr a2 d2&&(Qs a3 d2&&(isNone a1.guard&&(isNone b1.guard&&(isNone a2.guard&&isNone a3.guard)))) with
     |false=>rw [hb] at h;cases h
     |true=>
      rw [hb] at h
      simp only [cond_true,Option.some.injEq] at h
      subst h
      simp only [Bool.and_eq_true] at hb
      obtain ⟨k1,k2,k3,k4,k5',k6⟩:=hb
      refine ⟨rfl,e1,e2,e3,?_,g2,?_,g3,?_,?_,hN k3,hN k4,hN k5',hN k6⟩
      ·unfold Ti at g1
       split at g1
       ·rename_i y hy;cases g1;exact hy
       ·cases g1
      ·unfold Tj at g4
       split at g4
       ·rename_i t' y hy
        cases OP:Nat.beq y d1 with
        |false=>rw [OP] at g4;cases g4
        |true=>
         rw [OP] at g4
         simp only [cond_true,Option.some.injEq] at g4
         subst g4
         rw [hy,Nat.eq_of_beq_eq_true OP]
       ·cases g4
      ·unfold Qr at k1
       split at k1
       ·rename_i y hy;rw [hy,Nat.eq_of_beq_eq_true k1]
       ·cases k1
      ·unfold Qs at k2
       split at k2
       ·rename_i y hy;rw [hy,Nat.eq_of_beq_eq_true k2]
       ·cases k2
    ·cases h
   ·cases h
  ·cases h
 ·cases h
theorem Fj {g:Nat} {φ:Ph} {w1:World} {o o':Obj} (hz:Zi.In g) (hw:w1=w∨w1=w.drew) (ho:w.heap[g]? =some o) (hf: ∀x y z,o≠ .cells x y z) (Mi: ∀x y z,o'≠ .cells x y z):Trans Zi.In φ w φ (ChangeMaps.setBlock w1 g o'):=by
 have hh:w1.heap=w.heap:=by rcases hw with rfl|rfl<;>rfl
 refine ⟨.refl _,fun b hb hl=> ?_,fun _ _ _=>rfl,?_,?_⟩
 ·simp only [ChangeMaps.setBlock,hh]
  rw [Array.getElem?_setIfInBounds_ne (by intro he;subst he;exact hb hz)]
 ·simp [ChangeMaps.setBlock,hh]
 ·refine ⟨by rcases hw with rfl|rfl<;>rfl,by rcases hw with rfl|rfl<;>rfl,by rcases hw with rfl|rfl<;>rfl,fun x=> ?_⟩
  unfold World.frozen?
  by_cases hx:x.block=g
  ·have hl:=aO ho
   have e1:(ChangeMaps.setBlock w1 g o').heap[x.block]? =some o':=by rw [hx];simp [ChangeMaps.setBlock,hh,hl]
   rw [e1,hx,ho]
   cases o<;>cases o'<;>first|rfl|(exfalso;exact hf _ _ _ rfl)|(exfalso;exact Mi _ _ _ rfl)
  ·have e1:(ChangeMaps.setBlock w1 g o').heap[x.block]? =w.heap[x.block]? :=by
    simp only [ChangeMaps.setBlock,hh]
    rw [Array.getElem?_setIfInBounds_ne (Ne.symm hx)]
   rw [e1]
end
end Dn
/-
  Going through a map, in whatever order: it does what is said. Conditions: none.
-/
set_option linter.unusedSimpArgs false
set_option linter.unusedVariables false
namespace Dn
open Go
section
variable {P:Program} {c:Ctx} {Z Zb Zi:aW} {e e' e3:Env} {st bc ik B:St} {a a':Act} {w w':World} {R:Type} {r:R} {Q:Exit→Act→World→Prop} {o:Oper} {hn:iR}
theorem Ab {ops:Array Oper} {i:Nat} {nx:Act→World→Prop} (hi:ops[i]? =some o) (hg:o.guard=none) (h:o.wp P a w nx Q):wpOp P ops Q i nx a w:=by
 unfold wpOp
 simp only [hi]
 have:Region.wanted o (yielded ops a.tmps)=true:=by unfold Region.wanted;rw [hg]
 rw [this]
 simp only [if_true]
 exact .inl h
theorem sU {id:Nat} {ops:Array Oper} {l:List Oper} {nx:Act→World→Prop} (hl:ops.toList=o::l) (hg:o.guard=none) (h:o.wp P a w nx Q)
 (hn: ∀a' w',nx a' w'→wpOps P ops Q ((List.range l.length).map (· +1)) a' w'):(Code.region id ops false).wp P Q a w:=by
 refine wp_region ?_
 have hs:ops.size=l.length+1:=by rw [←Array.length_toList,hl];rfl
 rw [hs,List.range_succ_eq_map,wpOps_cons]
 have h0:ops[0]? =some o:=by rw [←Array.getElem?_toList,hl];rfl
 exact wpOp_mono hn (Ab h0 hg h)
theorem xu {ops:Array Oper} {l:List Oper} (hl:ops.toList=o::l):((List.range l.length).map (· +1)).map (ops[·]?)=l.map some:=by
 apply List.ext_getElem?
 intro i
 simp only [List.getElem?_map]
 by_cases hi:i<l.length
 ·have:ops[i+1]? =l[i]? :=by rw [←Array.getElem?_toList,hl];rfl
  simp [List.getElem?_range hi,this,hi]
 ·have h1:(List.range l.length)[i]? =none:=by simp;omega
  have h2:l[i]? =none:=by simp;omega
  rw [h1,h2];rfl
def aW.wd (Z:aW) (g:Nat):aW:={Z with In:=fun b=>Z.In b∨b=g}
theorem xv {g:Nat} {m:Option Nat} {s:Nat} {seen:Array Nat} {k:Nat} (h:bj c Z e st a w) (hg:w.heap[g]? =some (.mapIter m s seen k)):
 (∀t cs,ah st.fr t= .box cs→e.B t≠g)∧(∀f o,ar st.az f=some o→(e.E f).ownBlock≠some g):=by
 refine ⟨fun t cs ht he=> ?_,fun f o ho he=> ?_⟩
 ·have hs:=h.slot t
  rw [ht] at hs
  obtain ⟨ob,h1,h2⟩:=hs.2.obj
  rw [he,hg] at h1
  cases h1
  exact h2.elim
 ·obtain ⟨I,cells,_,_,h3,_⟩:=(h.dn f o ho).row
  rcases h3.2 with ⟨h1,_⟩|⟨g',cap,dN,h1,_,h2,_⟩
  ·rw [h1] at he;cases he
  ·rw [h1] at he
   simp only [Value.ownBlock,Option.some.injEq] at he
   subst he
   rw [hg] at h2;cases h2
theorem ef.wide {g:Nat} {m:Option Nat} {s:Nat} {seen:Array Nat} {k:Nat} (j:ef c Zb Zi e B hn a w) (hz:Zb.In g) (hg:w.heap[g]? =some (.mapIter m s seen k)):ef c Zb (Zi.wd g) e B hn a w:=by
 obtain ⟨h1,h2⟩:=xv j.iZ hg
 exact ⟨j.iZ,fun b hb=>hb.elim (j.sub b) (fun he=>by rw [he];exact hz),fun b hb=> .inl (j.new b hb),j.bt,j.T,j.keys,fun t cs ht hz=>hz.elim (j.box t cs ht) (h1 t cs ht),fun f o b ho hb hz=>hz.elim (j.dn f o b ho hb) (fun he=>h2 f o ho (by rw [hb,he])),j.Kt,j.HF,j.ptr,j.IV⟩
theorem ef.Wg {g:Nat} (j:ef c Zi Zi e B hn a w):bj c (Zi.wd g) e B a w:=by
 have h:=j.iZ
 have hm:e.m=B.az:=h.m
 have:=h.sub (Zi:=Zi.wd g) (bc:=B) (fun _ h=>h) ⟨h.defers.2.1,h.defers.2.2.1,h.defers.2.2.2⟩ h.nodup (fun t=> .inr ⟨j.ptr t,.inl rfl⟩) (fun f o ho=>⟨o,ho,rfl,rfl,id⟩)
  (by
   intro t cs ht
   have hs:=h.slot t
   rw [ht] at hs
   rcases hs.2.bC with h1|h1
   ·exact .inl h1
   ·exact .inr (.inl h1))
  (by
   intro f o b ho hb
   obtain ⟨I,cells,_,_,_,_,g5⟩:=(h.dn f o ho).row
   rcases (g5 b hb).1 with h1|h1
   ·exact .inl h1
   ·exact .inr (.inl h1))
  (by
   intro f o I cells b ho hp hz hI cq hb k hk
   obtain ⟨I',A6,g1,_,g3,_,g5⟩:=(h.dn f o ho).row
   rw [hI] at g1
   cases g1
   rw [lK cq g3 hb] at hk⊢
   exact (g5 b hb).2.2 hp hz k hk)
  (fun b hb=> .inl (j.new b hb))
 have he:{e with m:=B.az}=e:=by cases e;simp at hm⊢;exact hm.symm
 rw [he] at this
 exact this
theorem ef.Tl {g:Nat} {m:Option Nat} {s:Nat} {seen:Array Nat} {k:Nat} (j:ef c Zi Zi e B hn a w) (hg:w.heap[g]? =some (.mapIter m s seen k)):ef c (Zi.wd g) (Zi.wd g) e B hn a w:=by
 obtain ⟨h1,h2⟩:=xv j.iZ hg
 exact ⟨j.Wg,fun b hb=>hb,fun b hb=> .inl (j.new b hb),j.bt,j.T,j.keys,fun t cs ht hz=>hz.elim (j.box t cs ht) (h1 t cs ht),fun f o b ho hb hz=>hz.elim (j.dn f o b ho hb) (fun he=>h2 f o ho (by rw [hb,he])),j.Kt,j.HF,j.ptr,j.IV⟩
theorem rV {k n:Nat} (h:Q (eO (bif Nat.beq n (k+2) then 0 else n)) a w):Exit.inBlock k Q (eO n) a w:=by
 by_cases hk:n=k+2
 ·subst hk
  simp only [cm,decide_true,cond_true] at h
  simpa [eO,Exit.inBlock] using h
 ·simp only [cm,hk,decide_false,cond_false] at h
  match n,hk,h with
  |0,_,h=>exact h
  |1,_,h=>exact h
  |i+2,hk,h=>
   have hi:i≠k:=fun he=>hk (by rw [he])
   simpa [eO,Exit.inBlock,hi] using h
theorem Bx {α:Type} {l:List α} {i:Nat} {x:α} (h:l[i]? =some x):x∈l:=List.mem_of_getElem? h
theorem Qv (hG:Good P c) (hD:xb P c) {q:IY} {code:Code} (hq:GI code=some q) {K:Nat→St→Option R} (h:bj c Z e st a w) (hK:Qu c q st K=some r)
 (hQ: ∀n e' bc a' w',bj c Z e' bc a' w'→Trans Z.In e.φ w e'.φ w'→K n bc=some r→Q (eO n) a' w'):code.wp P Q a w:=by
 obtain ⟨rfl,l1,l2,l3,m1,m2,m3,m4,m5,m6,g1,g2,g3,g4⟩:=Fi hq
 unfold Qu at hK
 unfold IY.code
 refine wp_seq ?_
 obtain ⟨hx,hrx⟩:=h.eval q.x
 refine sU l1 g1 (fin (v:=a.eval q.x) (s:=aq c st q.x) (by simp [execOp,m1]) h (.refl _ _ _) (.of hx hrx) (by rw [m2];exact hK)) ?_
 rintro a1 w1 ⟨e1,ca,h1,t1,eX⟩
 try dsimp only at eX
 obtain ⟨Hi,_⟩:=h1.eval (.tmp q.d1)
 split at eX
 ·rename_i root s0 IX SA
  rw [IX] at Hi
  split at eX
  ·rename_i s Yb j8
   cases hp:pc root||!Oa s s0 with
   |true=>rw [hp] at eX;cases eX
   |false=>
    rw [hp] at eX
    simp only [cond_false] at eX
    simp only [Bool.or_eq_false_iff,Bool.not_eq_false'] at hp
    obtain ⟨qZ,Kc⟩:=hp
    have Kc:=ER Kc
    subst Kc
    have hit:=Gs SA
    simp only [ae] at Hi
    have fF:=h1.slot root
    rw [j8] at fF
    obtain ⟨ob,Mh,bG⟩:=fF.2.obj
    obtain ⟨arr,clock,rfl,mO⟩: ∃arr clock,ob= .map arr clock∧jC s arr clock Yb:=by
     cases ob with
     |cells x y z=>exact absurd bG.2.oO (by simp [cE])
     |map arr clock=>
      obtain ⟨s2,Vh,k1,k2,k3⟩:=bG
      simp only [List.cons.injEq,ap.mp.injEq,and_true] at k1
      obtain ⟨rfl,rfl⟩:=k1
      exact ⟨arr,clock,rfl,k3⟩
     |stringIter b pos=>
      have k1:[ap.mp s Yb]=[ap.mp MS.it _]:=bG
      simp only [List.cons.injEq,ap.mp.injEq,and_true] at k1
      rw [k1.1] at hit;cases hit
     |_=>exact bG.elim
    obtain ⟨kt,el,dR,_⟩:=(hG.mt q.t s SA).row
    have bx:=run_range_map (P:=P) w1 q.t kt el (e1.B root) arr clock dR Mh
    obtain ⟨IG,So,dE⟩:=Bw eX
    have cz:root≠q.d2:=by intro he;rw [←he,j8] at IG;cases IG
    have D7:cb w1 (w1.alloc (.mapIter (some (e1.B root)) clock #[] clock)):=by
     refine ⟨by simp,fun k hk=>j6 w1 _ k hk,⟨rfl,rfl,rfl,fun x=> ?_⟩⟩
     by_cases hx:x.block=w1.heap.size
     ·have e1':(w1.alloc (.mapIter (some (e1.B root)) clock #[] clock)).heap[x.block]? =some (.mapIter (some (e1.B root)) clock #[] clock):=by rw [hx];exact eR w1 _
      have e2:w1.heap[x.block]? =none:=by rw [hx];simp
      simp [World.frozen?,e1',e2]
     ·exact World.frozen?_alloc_old _ _ _ hx
    rw [List.length_singleton]
    show wpOps P q.o1 _ [1] a1 w1
    rw [wpOps_cons]
    have o6:q.o1[1]? =some q.b1:=by rw [←Array.getElem?_toList,l1];rfl
    refine Ab o6 g2 ?_
    unfold Oper.wp
    have hex:(execOp a1.eval q.b1).run P w1= .ok (.value (.pointer (some ⟨w1.heap.size,0,none⟩))) (w1.alloc (.mapIter (some (e1.B root)) clock #[] clock)):=by
     simp [execOp,m3,Hi,bx,Result.andThen]
    rw [hex,Oper.upon_value,m4]
    obtain ⟨e2,ch,h2,lz,hφ2⟩:=bK (v:= .pointer (some ⟨w1.heap.size,0,none⟩)) (s:= .sc .un) (h1.grow D7) (by simp [iV,ae,bD]) eX
    have kQ:(a1.put (some q.d2) (.pointer (some ⟨w1.heap.size,0,none⟩))).tmps.getD q.d2 undef= .pointer (some ⟨w1.heap.size,0,none⟩):=by
     rw [Act.kH (by rw [h1.size];exact dE),if_pos rfl]
    have Yc: ∀t,t≠q.d2→(a1.put (some q.d2) (.pointer (some ⟨w1.heap.size,0,none⟩))).tmps.getD t undef=a1.tmps.getD t undef:=fun t ht=>by
     rw [Act.kH (by rw [h1.size];exact dE),if_neg ht]
    generalize a1.put (some q.d2) (.pointer (some ⟨w1.heap.size,0,none⟩))=a2 at h2 kQ Yc⊢
    have NA:(w1.alloc (.mapIter (some (e1.B root)) clock #[] clock)).heap[w1.heap.size]? =some (.mapIter (some (e1.B root)) clock #[] clock):=eR w1 _
    have OV:(w1.alloc (.mapIter (some (e1.B root)) clock #[] clock)).heap[e1.B root]? =some (.map arr clock):=by rw [j6 w1 _ _ (aO Mh)];exact Mh
    have Wh:Z.In w1.heap.size:=h1.bC _ (Nat.le_refl _)
    have t12:Trans Z.In e.φ w e2.φ (w1.alloc (.mapIter (some (e1.B root)) clock #[] clock)):=by rw [hφ2];exact t1.trans (D7.trans h1.bC _)
    have Qw:a1.tmps.getD root undef= .map (some (e1.B root)):=by
     have:=fF.1.1 qZ
     rw [this];simp [wk,eL,hit]
    generalize hbq:e1.B root=bm at *
    generalize hiq:w1.heap.size=ib at *
    generalize w1.alloc (.mapIter (some bm) clock #[] clock)=w2 at *
    clear bx hex D7 Mh
    show (Code.block q.k (.loop q.body)).wp P Q a2 w2
    refine wp_block (wp_loop_rounds (arr.size+1) ?_)
    generalize Yd:c.pe q.i2=hn at lz
    obtain ⟨Zi,e3,e4,ik,HC,h3,t3,hφ,hk,j1,j2,dY,E3,rN⟩:=sN h2 lz
    split at rN
    ·rename_i s2 es Ye OW
     cases wv:s2.st||(!sn s2.lay [.s]||(s2.b||!aT HC.bt q.d2)) with
     |true=>rw [wv] at rN;cases rN
     |false=>
      rw [wv] at rN
      simp only [cond_false] at rN
      simp only [Bool.or_eq_false_iff,Bool.not_eq_false'] at wv
      obtain ⟨c1,c2,c3,c4⟩:=wv
      have c2:=Gl c2
      obtain ⟨⟨n,ms⟩,hR,Gj⟩:=ia rN
      have Gj:=xa Gj
      obtain ⟨kL,C0⟩:=C8 hR
      have K4:q.d2∈Zi.bt:=by rw [←j2.iZ.defers.2.1];exact (aU _ _).1 c4
      have Yf:Zi.T q.d2= .pointer (some ⟨ib,0,none⟩):=by rw [←j2.T _ K4];exact kQ
      have Wi:=j2.iZ.slot root
      rw [OW] at Wi
      have Wj:sm s2=false:=by simp [sm,c2]
      have Yg:e4.B root=bm:=by
       have:=Wi.1.1 qZ
       rw [Yc root cz,Qw] at this
       simp [wk,eL,Wj] at this
       exact this.symm
      have Tn:jC s2 arr clock es:=by
       obtain ⟨ob,k1,k2⟩:=Wi.2.obj
       rw [Yg,OV] at k1
       cases k1
       obtain ⟨s3,ms3,k3,_,k4⟩:=k2
       simp only [List.cons.injEq,ap.mp.injEq,and_true] at k3
       obtain ⟨rfl,rfl⟩:=k3
       exact k4
      have Tb: ¬Zi.In bm:=by have:=j2.box root _ OW;rwa [Yg] at this
      have Yh:bm≠ib:=by intro he;rw [he,NA] at OV;cases OV
      have GJ: ∀(i:Nat) (x:MapEntry),arr[i]? =some x→x.born=i∧ ∃m,es[i]? =some m∧Jw s2 x m i:=by
       intro i x hx
       have hi:i<es.length:=by rw [←Tn.size];exact (Array.getElem?_eq_some_iff.1 hx).1
       have he:=Tn.Mg i x es[i] hx (List.getElem?_eq_getElem hi)
       exact ⟨he.1,es[i],List.getElem?_eq_getElem hi,he⟩
      have hold: ∀x∈arr.toList,x.born<clock:=by
       intro x hx
       obtain ⟨i,hi,he⟩:=List.mem_iff_getElem.1 hx
       have Cu:arr[i]? =some x:=by rw [←Array.getElem?_toList,List.getElem?_eq_getElem hi,he]
       rw [(GJ i x Cu).1,Tn.clock,←Tn.size]
       simpa using hi
      have Re:(arr.toList.map (·.born)).Nodup:=by
       have:arr.toList.map (·.born)=List.range arr.toList.length:=by
        apply List.ext_getElem?
        intro i
        rw [List.getElem?_map]
        by_cases hi:i<arr.toList.length
        ·rw [List.getElem?_eq_getElem hi,List.getElem?_range hi]
         have Cu:arr[i]? =some arr.toList[i]:=by rw [←Array.getElem?_toList,List.getElem?_eq_getElem hi]
         simp only [Option.map_some,(GJ i _ Cu).1]
        ·rw [List.getElem?_eq_none (by omega),List.getElem?_eq_none (by simp at hi⊢;omega)];rfl
       rw [this];exact List.nodup_range
      have hzw:(Zi.wd ib).bt=Zi.bt:=rfl
      have key: ∀(k:Nat) (φ:Ph) (a:Act) (w:World) (seen:Array Nat),ef c Z (Zi.wd ib) {e4 with φ:=φ} (nP ch HC) hn a w→ef c (Zi.wd ib) (Zi.wd ib) {e4 with φ:=φ} HC hn a w→
       Trans Z.In e2.φ w2 φ w→w.heap[ib]? =some (.mapIter (some bm) clock seen clock)→w.heap[bm]? =some (.map arr clock)→
       (∀b∈seen.toList,∃m,es[b]? =some m∧Nz c q HC m=some (.inl ()))→(leftOf arr seen).size<k→Code.rounds P q.body (Exit.inBlock q.k Q) k a w:=by
       intro k
       induction k with
       |zero=>intro φ a w seen _ _ _ _ _ _ hl;omega
       |succ k ih=>
        intro φ a w seen j1 j2 t0 NA OV OX hl
        have Qx:=aO NA
        have aar:=aO OV
        have vv:a.tmps.getD q.d2 undef= .pointer (some ⟨ib,0,none⟩):=by rw [j2.T _ K4];exact Yf
        have leave: ∀(n':Nat) (e6:Env) (OC:St) (a6:Act) (w6:World) (w':World) (vs:List MV),ef c Z (Zi.wd ib) {e4 with φ:=φ} (nP ch HC) hn a w'→Trans Z.In e2.φ w2 φ w'→ib<w'.heap.size→
         bj c ((Zi.wd ib).cv ib) e6 OC a6 w6→Trans ((Zi.wd ib).cv ib).In φ w' e6.φ w6→TO OC [] (hn.ex n') vs→(n',vs)=(n,ms)→Exit.inBlock q.k Q (eO n') a6 w6:=by
         intro n' e6 OC a6 w6 w' vs jj tt tV h6 t6 hT dq
         cases dq
         have jl:=(jj.Tk tV).later t6 h6.gE h6.defers.1 h6.size h6.defers.2.2.2
         obtain ⟨s1,s2,s3⟩:=Bn (hn:=hn) (e:=n)
         obtain ⟨e7,Uo,q1,q2,q3⟩:=sO jl h6 rfl ⟨s1,s2⟩ (s3 E3) hT Gj
         refine rV (hQ _ e7 Uo a6 w6 q1 ?_ q3)
         rw [q2]
         exact t12.trans (tt.trans (t6.sup fun b hb=>jj.sub b hb.1))
        rw [rounds_succ]
        unfold IY.body
        refine wp_seq ?_
        rcases run_next_at (P:=P) w q.a2.type ib bm clock clock seen arr clock NA OV hold (Nat.le_refl _) with ⟨hz,Uz⟩|⟨x,Yi,Qy,Ug,Uz⟩
        ·have Yj:Qt c q HC=some (n,ms):=by
          refine C0 fun m hm=> ?_
          obtain ⟨i,hi,he⟩:=List.mem_iff_getElem.1 hm
          have Ux:i<arr.size:=by rw [Tn.size];exact hi
          have Cu:arr[i]? =some arr[i]:=Array.getElem?_eq_getElem Ux
          have hs:=all_seen arr seen hz arr[i] (by simp)
          rw [(GJ i _ Cu).1] at hs
          obtain ⟨m',k1,k2⟩:=OX i (by simpa using hs)
          rw [List.getElem?_eq_getElem hi,he] at k1
          cases k1
          exact k2
         unfold Qt at Yj
         have hex:(execOp a.eval q.a2).run P w= .ok (.value (.tuple #[.bool false])) w:=by
          have hv:a.eval (.tmp q.d2)= .pointer (some ⟨ib,0,none⟩):=vv
          simp [execOp,m5,hv,Uz,Result.andThen]
         refine sU l2 g3 (fin (s:= .cN [.sc (.p (.b false))]) hex (j2.OU Qx) (.refl _ _ _) ⟨?_,trivial⟩ Yj) ?_
         ·simp only [ae]
          exact ⟨_,rfl,.bool false,_,rfl,oY _,rfl,rfl⟩
         ·rintro a5 w5 ⟨e5,Ro,h5,t5,Kr⟩
          try dsimp only at Kr
          refine Bk hG (xu l2) h5 Kr t5 ?_
          rintro a6 w6 ⟨e6,OC,h6,t6,CK⟩
          try dsimp only at CK
          obtain ⟨To,_⟩:=h6.eval q.cx
          split at CK
          ·rename_i hb
           rw [hb] at To
           obtain ⟨vs,hT,dq⟩:=gu CK
           simp only [Option.some.injEq] at dq
           rw [Yd] at hT
           refine wp_seq (wp_cond_false (pu To) (wp_exit ?_))
           exact leave (q.kx+2) e6 OC a6 w6 w vs j1 t0 Qx h6 t6 hT dq
          ·cases CK
        ·obtain ⟨Yk,hxs⟩:=mem_left Yi
         obtain ⟨i,hi,he⟩:=List.mem_iff_getElem.1 Yk
         have Cu:arr[i]? =some x:=by rw [←Array.getElem?_toList,List.getElem?_eq_getElem hi,he]
         obtain ⟨sG,m,Hy,Wk⟩:=GJ i x Cu
         obtain ⟨_,ks,v,rfl,D6,Rr,Rh,Po⟩:=Wk
         have Oi:=Bx Hy
         obtain ⟨res,o4,wE⟩: ∃res,Nz c q HC (.cN [.agg ks,v])=some res∧(res= .inl ()∨res= .inr (n,ms)):=by
          rcases kL _ Oi with h|h
          ·exact ⟨_,h,.inl rfl⟩
          ·exact ⟨_,h,.inr rfl⟩
         obtain ⟨Fk,rfl⟩: ∃Fk,ks=[.s Fk]:=by
          rw [c2] at D6
          match ks,D6 with
          |[.s l],_=>exact ⟨l,rfl⟩
         obtain ⟨n0,rfl⟩: ∃n0,v= .i .i64 n0:=by
          rw [c3] at Rh
          match v,Rh with
          | .i .i64 n0,_=>exact ⟨n0,rfl⟩
         have Rr:x.key= .string ⟨Fk.toArray⟩:=by rw [Rr,c1];rfl
         have Po:x.val= .int .i64 n0:=by rw [Po,c3];rfl
         have Tp:=o4
         unfold Nz at o4
         simp only [C6,gT,gC,gA,gN,gS,gI,decide_true,cond_true] at o4
         have hzi:(Zi.wd ib).In ib:= .inr rfl
         have lO:Trans (Zi.wd ib).In φ w φ (ChangeMaps.setBlock Qy ib (.mapIter (some bm) clock (seen.push x.born) clock)):=
          Fj hzi Ug NA (fun _ _ _ h=>by cases h) (fun _ _ _ h=>by cases h)
         have Wl:Qy.heap=w.heap:=by rcases Ug with rfl|rfl<;>rfl
         have NB:(ChangeMaps.setBlock Qy ib (.mapIter (some bm) clock (seen.push x.born) clock)).heap[ib]? =some (.mapIter (some bm) clock (seen.push x.born) clock):=by
          simp [ChangeMaps.setBlock,Wl,Qx]
         have mS:vR φ (ChangeMaps.setBlock Qy ib (.mapIter (some bm) clock (seen.push x.born) clock)):=by
          intro b o u hu
          have h0:=j2.iZ.gE b o u hu
          have Wm:b≠ib:=by
           intro EN
           subst EN
           have:w.cell? ⟨b,o,none⟩=none:=by simp [World.cell?,NA]
           rw [this] at h0;cases h0
          have kM:(ChangeMaps.setBlock Qy ib (.mapIter (some bm) clock (seen.push x.born) clock)).heap[b]? =w.heap[b]? :=by
           simp only [ChangeMaps.setBlock,Wl]
           rw [Array.getElem?_setIfInBounds_ne (Ne.symm Wm)]
          rw [World.cell?_of_block kM];exact h0
         have La:(ChangeMaps.setBlock Qy ib (.mapIter (some bm) clock (seen.push x.born) clock)).heap[bm]? =some (.map arr clock):=by
          simp only [ChangeMaps.setBlock,Wl]
          rw [Array.getElem?_setIfInBounds_ne (Ne.symm Yh)];exact OV
         generalize ChangeMaps.setBlock Qy ib (.mapIter (some bm) clock (seen.push x.born) clock)=w' at Uz lO NB mS La
         have J1:=j1.later lO mS j1.iZ.defers.1 j1.iZ.size j1.T
         have J2:=j2.later lO mS j2.iZ.defers.1 j2.iZ.size j2.T
         have T0:=t0.trans (lO.sup j1.sub)
         have GK:=aO NB
         have S:=J2.OU GK
         have hex:(execOp a.eval q.a2).run P w= .ok (.value (.tuple #[.bool true,x.key,x.val])) w':=by
          have hv:a.eval (.tmp q.d2)= .pointer (some ⟨ib,0,none⟩):=vv
          simp [execOp,m5,hv,Uz,Result.andThen]
         have kS: ∀ee:Env,ae ee x.key (.sc (.p (.s Fk))):=fun ee=>by
          have:=Jz (e:=ee) ⟨Fk.toArray⟩
          rw [Rr];simpa using this
         have vS: ∀ee:Env,ae ee x.val (.sc (.p (.i .i64 n0))):=fun ee=>by rw [Po];exact j9 _ _
         obtain ⟨e5,Ro,h5,Kr,hφ5⟩:=bK (v:= .tuple #[.bool true,x.key,x.val]) (s:= .cN [.sc (.p (.b true)),.sc (.p (.s Fk)),.sc (.p (.i .i64 n0))]) S ⟨by
          simp only [ae]
          exact ⟨_,rfl,.bool true,_,rfl,oY _,rfl,x.key,_,rfl,kS _,rfl,x.val,[],rfl,vS _,rfl,rfl⟩,trivial⟩ o4
         refine sU l2 g3 (nx:=fun a5 w5=>a5=a.put q.a2.dst (.tuple #[.bool true,x.key,x.val])∧w5=w') ?_ ?_
         ·unfold Oper.wp
          rw [hex,Oper.upon_value]
          exact ⟨rfl,rfl⟩
         ·rintro a5 w5 ⟨rfl,rfl⟩
          refine Bk hG (xu l2) h5 Kr (φ0:=φ) (w0:=w5) (by rw [hφ5];exact .refl _ _ _) ?_
          rintro a6 w6 ⟨e6,OC,h6,t6,CK⟩
          try dsimp only at CK
          obtain ⟨To,_⟩:=h6.eval q.cx
          split at CK
          ·rename_i hb
           rw [hb] at To
           refine wp_seq (wp_cond_true (pu To) (wp_skip ?_))
           refine wp_block (wp_seq ?_)
           have Tq: ¬((Zi.wd ib).cv ib).In ib:=fun hz=>hz.2 rfl
           have Tr: ¬((Zi.wd ib).cv ib).In bm:=fun hz=>hz.1.elim Tb Yh
           have Wn:w6.heap[ib]? =some (.mapIter (some bm) clock (seen.push x.born) clock):=by rw [t6.heap ib Tq GK];exact NB
           have Wo:w6.heap[bm]? =some (.map arr clock):=by rw [t6.heap bm Tr (aO La)];exact La
           have Ts:=run_entry_at (P:=P) w6 ib bm clock seen arr clock x Wn Wo Yk Re
           have Tt:a6.eval (.tmp q.d2)= .pointer (some ⟨ib,0,none⟩):=by
            have:=h6.defers.2.2.2 q.d2 K4
            show a6.tmps.getD q.d2 undef=_
            rw [this];exact Yf
           have Wp:(execOp a6.eval q.a3).run P w6= .ok (.value (.tuple #[x.key,x.val])) w6:=by
            simp [execOp,m6,Tt,Ts,Result.andThen]
           refine sU l3 g4 (fin (s:= .cN [.sc (.p (.s Fk)),.sc (.p (.i .i64 n0))]) Wp h6 (.refl _ _ _) ⟨?_,trivial⟩ CK) ?_
           ·simp only [ae]
            exact ⟨_,rfl,x.key,_,rfl,kS _,rfl,x.val,[],rfl,vS _,rfl,rfl⟩
           ·rintro a7 w7 ⟨e7,Uo,h7,t7,Yl⟩
            try dsimp only at Yl
            refine Bk hG (xu l3) h7 Yl (t6.trans t7) ?_
            rintro a8 w8 ⟨e8,st8,h8,t8,Ym⟩
            try dsimp only at Ym
            refine lV hG hD q.rest h8 Ym ?_
            intro n' e9 st9 a9 w9 h9 t9 Qz
            try dsimp only at Qz
            have t89:=t8.trans t9
            cases Nr:Nat.beq n' 0||Nat.beq n' (q.k5+2) with
            |true=>
             rw [Nr] at Qz
             simp only [cond_true,Option.some.injEq] at Qz
             have E5:Code.rounds P q.body (Exit.inBlock q.k Q) k a9 w9:=by
              have tW:Trans (Zi.wd ib).In φ w5 e9.φ w9:=t89.sup fun b hb=>hb.1
              refine ih e9.φ a9 w9 (seen.push x.born) (J1.later tW h9.gE h9.defers.1 h9.size h9.defers.2.2.2) (J2.later tW h9.gE h9.defers.1 h9.size h9.defers.2.2.2) (T0.trans (tW.sup j1.sub)) ?_ ?_ ?_ ?_
              ·rw [t89.heap ib Tq GK];exact NB
              ·rw [t89.heap bm Tr (aO La)];exact La
              ·intro b NC
               simp only [Array.toList_push,List.mem_append,List.mem_singleton] at NC
               rcases NC with NC|rfl
               ·exact OX b NC
               ·rw [sG];exact ⟨_,Hy,by rw [Tp,←Qz]⟩
              ·have:=left_shrinks arr seen x Yi
               omega
             refine rV (Q:=Exit.then (Code.rounds P q.body (Exit.inBlock q.k Q) k) (Exit.inBlock q.k Q)) ?_
             have:(bif Nat.beq n' (q.k5+2) then 0 else n')=0:=by
              rcases Bool.or_eq_true_iff.1 Nr with h|h
              ·have:=Nat.eq_of_beq_eq_true h;subst this;cases Nat.beq 0 (q.k5+2)<;>rfl
              ·rw [h];rfl
             rw [this]
             exact E5
            |false=>
             rw [Nr] at Qz
             simp only [cond_false] at Qz
             obtain ⟨vs,hT,dq⟩:=gu Qz
             simp only [Option.some.injEq] at dq
             rw [Yd] at hT
             simp only [Bool.or_eq_false_iff] at Nr
             have IJ:n'≠0:=by intro he;rw [he] at Nr;simp [cm] at Nr
             have Wq:(n',vs)=(n,ms):=by
              rcases wE with h|h
              ·rw [h] at dq;cases dq
              ·rw [h] at dq;cases dq;rfl
             have:=leave n' e9 st9 a9 w9 w5 vs J1 T0 GK h9 t89 hT Wq
             refine rV (Q:=Exit.then (Code.rounds P q.body (Exit.inBlock q.k Q) k) (Exit.inBlock q.k Q)) ?_
             rw [Nr.2]
             simp only [cond_false]
             rw [mY IJ]
             exact this
          ·cases CK
      have Yn:{e4 with φ:=e4.φ}=e4:=by cases e4;rfl
      refine key (arr.size+1) e4.φ a2 w2 #[] (by rw [Yn];exact j1.wide Wh NA) (by rw [Yn];exact j2.Tl NA) (by rw [hφ];exact t3) NA OV (by simp) ?_
      have:(leftOf arr #[]).size≤arr.size:=by unfold leftOf;exact Array.size_filter_le
      omega
    ·cases rN
  ·cases eX
 ·cases eX
end
end Dn
/-
  Functions of the library as table entries. Conditions: none.
-/
set_option linter.unusedVariables false
namespace Dn
open Go
theorem aC.none (P:Program) (c:Ctx):aC P c (fun _ _=>Option.none):=⟨fun f ms r h=>by cases h⟩
end Dn
/-
  Reasoning about functions on values. Conditions: none.
-/
set_option linter.unusedVariables false
namespace Dn
open Go
section
variable {R:Type}
@[simp] theorem aav (x : Bool) (K : Bool → Option R) : gB (.b x) K = K x := (rfl)
@[simp] theorem aaw (k : IntKind) (x : Int) (K : Int → Option R) : gI k (.i k x) K = K x := by simp [gI]
@[simp] theorem aax (x : List UInt8) (K : List UInt8 → Option R) : gS (.s x) K = K x := (rfl)
@[simp] theorem aay (x : List MV) (K : List MV → Option R) : gL (.list x) K = K x := (rfl)
@[simp] theorem aaz (x : ez) (K : ez → Option R) : gH (.h x) K = K x := (rfl)
@[simp] theorem aaA (x : List MV) (K : List MV → Option R) : gA (.agg x) K = K x := (rfl)
@[simp] theorem aaB (x : List MV) (K : List MV → Option R) : gT (.cN x) K = K x := (rfl)
@[simp] theorem aaC (x : List MV) (K : List MV → Option R) : gF (.fresh x) K = K x := (rfl)
@[simp] theorem Yo (f : Nat) (x : List MV) (K : Nat → List MV → Option R) : RB (.func f x) K = K f x := (rfl)
@[simp] theorem aaD (f : Nat) (x : List MV) (K : MV → Option R) : gR (.func f x) K = K (.func f x) := (rfl)
@[simp] theorem aaE (m : MV) (r : List MV) (K : MV → List MV → Option R) : gC (m :: r) K = K m r := (rfl)
@[simp] theorem aaF (K : Option R) : gN [] K = K := (rfl)
@[simp] theorem aA {α : Type} (a : α) (K : α → Option R) : bd (some a) K = K a := (rfl)
@[simp] theorem Yp (a b : Nat) : Nat.beq a b = decide (a = b) := cm a b
@[simp] theorem Tu (K : Option R) : b9 true K = K := (rfl)
@[simp] theorem Tv (x y : Option R) : ba true x y = x := (rfl)
@[simp] theorem Rv (x y : Option R) : ba false x y = y := (rfl)
end
theorem ND {x:Int} (h1: -9223372036854775808≤x) (h2:x≤9223372036854775807):IntKind.wrap .i64 x=x:=by rw [IntKind.wrap_i64];omega
section
variable {σ R:Type} {body:σ→Option (Sum σ R)}
theorem Ac {n:Nat} {s:σ} {r:R} (h:iter body n s=some r): ∀{m:Nat},n≤m→iter body m s=some r:=by
 induction n generalizing s with
 |zero=>cases h
 |succ n ih=>
  intro m hm
  obtain ⟨m,rfl⟩: ∃k,m=k+1:=⟨m-1,by omega⟩
  simp only [iter] at h⊢
  cases hb:body s with
  |none=>rw [hb] at h;cases h
  |some x=>
   rw [hb] at h
   cases x with
   |inl s'=>exact ih h (by omega)
   |inr r'=>exact h
theorem er {n:Nat} {s:σ} {r:R} (h:iter body n s=some r):Loop body s=some r:=by
 have he: ∃r n,iter body n s=some r:=⟨r,n,h⟩
 unfold Loop
 rw [dif_pos he]
 obtain ⟨m,hm⟩:=Classical.choose_spec he
 have h1:=Ac h (Nat.le_max_left n m)
 have h2:=Ac hm (Nat.le_max_right n m)
 rw [h1] at h2
 exact h2.symm
theorem Lb (I:σ→Prop) (μ:σ→Nat) (Q:R→Prop) (h: ∀s,I s→(∃s',body s=some (.inl s')∧I s'∧μ s'<μ s)∨(∃r,body s=some (.inr r)∧Q r)) {s:σ} (hs:I s): ∃r,Loop body s=some r∧Q r:=by
 have key: ∀k s,I s→μ s<k→ ∃r,iter body k s=some r∧Q r:=by
  intro k
  induction k with
  |zero=>intro s _ h;omega
  |succ k ih=>
   intro s hs hk
   rcases h s hs with ⟨s',e,hi,hm⟩|⟨r,e,hq⟩
   ·obtain ⟨r,e2,hq⟩:=ih s' hi (by omega)
    exact ⟨r,by simp only [iter,e];exact e2,hq⟩
   ·exact ⟨r,by simp only [iter,e],hq⟩
 obtain ⟨r,e,hq⟩:=key (μ s+1) s hs (by omega)
 exact ⟨r,er e,hq⟩
theorem Lc (S:Nat→σ) (N:Nat) (Q:R→Prop) (P:Nat→Prop) (h0:P 0) (h: ∀k,k<N→P k→(body (S k)=some (.inl (S (k+1)))∧P (k+1))∨(∃r,body (S k)=some (.inr r)∧Q r)) (he:P N→ ∃r,body (S N)=some (.inr r)∧Q r): ∃r,Loop body (S 0)=some r∧Q r:=by
 have key: ∀d k,k+d=N→P k→ ∃r,iter body (d+1) (S k)=some r∧Q r:=by
  intro d
  induction d with
  |zero=>
   intro k hk hp
   have:k=N:=by omega
   subst this
   obtain ⟨r,e,hq⟩:=he hp
   exact ⟨r,by simp only [iter,e],hq⟩
  |succ d ih=>
   intro k hk hp
   rcases h k (by omega) hp with ⟨e,A7⟩|⟨r,e,hq⟩
   ·obtain ⟨r,e2,hq⟩:=ih (k+1) (by omega) A7
    exact ⟨r,by rw [iter,e];exact e2,hq⟩
   ·exact ⟨r,by rw [iter,e],hq⟩
 obtain ⟨r,e,hq⟩:=key N 0 (by omega) h0
 exact ⟨r,er e,hq⟩
end
end Dn
/-
  From functions on plain values to functions on typed values. Conditions: none.
-/
set_option linter.unusedVariables false
namespace Dn
open Go
def bU {R:Type} (l:List MV) (K:Nat→Option R):Option R:=K l.length
def ix {α R:Type} (l:List α) (i:Int) (K:α→Option R):Option R:=
 match (if 0≤i then l[i.toNat]? else none) with|some x=>K x|none=>none
def pI (l:List UInt8):List Int:=l.map fun b=>(b.toNat:Int)
@[simp] theorem lX (l : List UInt8) : yI l = (pI l).map (MV.i .u8) := by unfold yI pI; rw [List.map_map]; rfl
@[reducible] def H5 {α : Type} (f : α → MV) (l : List α) : MV := .list (l.map f)
@[reducible] def H6 {α : Type} (f : α → MV) (l : List α) : MV := .fresh (l.map f)
def Sm {A B:Type} (g:B→A) (x:Option A) (y:Option B):Prop:=x=y.map g
section
variable {A B A' B' α:Type} {g:B→A} {T:Option B}
theorem Sm.at {x x':Option A} (e:x=x') (h:Sm g x' T):Sm g x T:=e▸h
theorem aQ {l:List MV} {K:List MV→Option A} (h:Sm g (K l) T):Sm g (gA (.agg l) K) T:=h
theorem aM {x:Bool} {K:Bool→Option A} (h:Sm g (K x) T):Sm g (gB (.b x) K) T:=h
theorem eH {x:List UInt8} {K:List UInt8→Option A} (h:Sm g (K x) T):Sm g (gS (.s x) K) T:=h
theorem bw {x:List MV} {K:List MV→Option A} (h:Sm g (K x) T):Sm g (gL (.list x) K) T:=h
theorem sV {x:MV} {outs:List MV} {K:MV→List MV→Option A} (h:Sm g (K x outs) T):Sm g (gW (.kD x outs) K) T:=h
theorem dU {x:List MV} {K:List MV→Option A} (h:Sm g (K x) T):Sm g (gT (.cN x) K) T:=h
theorem fX {x:List MV} {K:List MV→Option A} (h:Sm g (K x) T):Sm g (gF (.fresh x) K) T:=h
theorem Ld {v:Value} {K:MV→Option A} (h:Sm g (K (.raw v)) T):Sm g (gR (.raw v) K) T:=h
theorem aG {k:IntKind} {n:Int} {K:Int→Option A} (h:Sm g (K n) T):Sm g (gI k (.i k n) K) T:=by simpa using h
theorem ao {m:MV} {r:List MV} {K:MV→List MV→Option A} (h:Sm g (K m r) T):Sm g (gC (m::r) K) T:=h
theorem aF {K:Option A} (h:Sm g K T):Sm g (gN [] K) T:=h
theorem ak {x:Option A'} {y:Option B'} {f:B'→A'} {K:A'→Option A} {K':B'→Option B} (h:Sm f x y) (hk: ∀b,Sm g (K (f b)) (K' b)):Sm g (bd x K) (bd y K'):=by
 unfold Sm at h;subst h
 cases y with
 |none=>rfl
 |some b=>exact hk b
theorem aJ {p:Prop} [Decidable p] {X Y:Option A} {X' Y':Option B} (h1:Sm g X X') (h2:Sm g Y Y'):Sm g (ba (decide p) X Y) (if p then X' else Y'):=by
 by_cases h:p<;>simpa [h] using (by assumption)
theorem ax {c:Bool} {X Y:Option A} {X' Y':Option B} (h1:Sm g X X') (h2:Sm g Y Y'):Sm g (ba c X Y) (if c then X' else Y'):=by
 cases c<;>simpa using (by assumption)
theorem cA {p:Prop} [Decidable p] {X:Option A} {X':Option B} (h1:Sm g X X'):Sm g (b9 (decide p) X) (if p then X' else none):=by
 by_cases h:p
 ·simpa [h] using h1
 ·simp [h,b9,Sm]
theorem oc {c:Bool} {X:Option A} {X':Option B} (h1:Sm g X X'):Sm g (b9 c X) (if c then X' else none):=by
 cases c
 ·simp [b9,Sm]
 ·simpa using h1
theorem cf {c:Bool} {X:Option A} (hc:c=true) (h:Sm g X T):Sm g (b9 c X) T:=by subst hc;exact h
theorem mE {c:Bool} {X Y:Option A} (hc:c=true) (h:Sm g X T):Sm g (ba c X Y) T:=by subst hc;exact h
theorem mF {c:Bool} {X Y:Option A} (hc:c=false) (h:Sm g Y T):Sm g (ba c X Y) T:=by subst hc;exact h
theorem aP {l:List MV} {n:Nat} {K:Nat→Option A} (e:l.length=n) (h:Sm g (K n) T):Sm g (bU l K) T:=by subst e;exact h
theorem br {l:List MV} {M:List α} {f:α→MV} {i:Int} {K:MV→Option A} {K':α→Option B} (e:l=M.map f) (h: ∀y,Sm g (K (f y)) (K' y)):Sm g (idx l i K) (ix M i K'):=by
 subst e
 unfold idx O7 ix
 by_cases hi:0≤i
 ·simp only [hi,if_true,List.getElem?_map]
  cases M[i.toNat]? with
  |none=>rfl
  |some y=>exact h y
 ·simp only [hi,if_false];rfl
theorem vU {C:Type} {x:Option C} {K:C→Option A} {K':C→Option B} (h: ∀b,Sm g (K b) (K' b)):Sm g (bd x K) (bd x K'):=by
 cases x with
 |none=>rfl
 |some b=>exact h b
theorem Bz {a b:Nat} {K:Nat→Nat→Option A} (h:Sm g (K a b) T):Sm g (Ms (.raw (.complex .f64 a b)) K) T:=h
def uk {R:Type} (l:List Int) (K:List UInt8→Option R):Option R:=if l.all isByte then K (l.map fun n=>UInt8.ofNat n.toNat) else none
theorem Lf {R:Type} {M:List Int}: ∀{K:List UInt8→Option R},su (M.map (MV.i .u8)) K=uk M K:=by
 induction M with
 |nil=>intro K;rfl
 |cons n M ih=>
  intro K
  simp only [List.map_cons,su,UN,gI,decide_true,cond_true,ih]
  cases h:isByte n<;>simp [b9,uk,h]
theorem ul {l:List MV} {M:List Int} {K:List UInt8→Option A} {K':List UInt8→Option B} (e:l=M.map (MV.i .u8)) (h: ∀b,Sm g (K b) (K' b)):Sm g (su l K) (uk M K'):=by
 subst e
 rw [Lf]
 unfold uk
 split
 ·exact h _
 ·rfl
theorem aa {d:A} {a:B} (e:d=g a):Sm g (some d) (some a):=by subst e;rfl
theorem od {n:Nat} {l:List MV} {M:List α} {f:α→MV} (e:l=M.map f) (h: ∀x,(f x).w=n):kE n l=true:=by
 subst e
 unfold kE
 rw [List.all_map,List.all_eq_true]
 intro x _
 simp [h x]
theorem C9 {σ σ' ρ ρ':Type} {e:σ'→σ} {f:ρ'→ρ} {K:σ→Option (Sum σ ρ)} {K':σ'→Option (Sum σ' ρ')} (h: ∀s,Sm (Sum.map e f) (K (e s)) (K' s)) (n:Nat) (s:σ'):iter K n (e s)=(iter K' n s).map f:=by
 induction n generalizing s with
 |zero=>rfl
 |succ n ih=>
  have:=h s
  unfold Sm at this
  simp only [iter,this]
  cases K' s with
  |none=>rfl
  |some x=>cases x with
   |inl s'=>exact ih s'
   |inr r=>rfl
theorem Ad {σ ρ:Type} {K:σ→Option (Sum σ ρ)} {s:σ} (h: ∀n,iter K n s=none):Loop K s=none:=by
 unfold Loop
 rw [dif_neg]
 rintro ⟨r,n,e⟩
 rw [h] at e;cases e
theorem cI {σ σ' ρ ρ':Type} {K:σ→Option (Sum σ ρ)} {K':σ'→Option (Sum σ' ρ')} {d0:σ} {s0:σ'} (e:σ'→σ) (f:ρ'→ρ) (e0:d0=e s0) (h: ∀s,Sm (Sum.map e f) (K (e s)) (K' s)):Sm f (Loop K d0) (Loop K' s0):=by
 subst e0
 unfold Sm
 by_cases hx: ∃r n,iter K' n s0=some r
 ·obtain ⟨r,n,hn⟩:=hx
  rw [er hn]
  have:iter K n (e s0)=some (f r):=by rw [C9 h,hn];rfl
  rw [er this];rfl
 ·have h1: ∀n,iter K' n s0=none:=fun n=>by
   cases hn:iter K' n s0 with
   |none=>rfl
   |some r=>exact absurd ⟨r,n,hn⟩ hx
  rw [Ad h1,Ad fun n=>by rw [C9 h,h1];rfl];rfl
end
abbrev QA (f:Option MV):List MV→Option MV|[]=>f|_=>none
abbrev eY (f:MV→Option MV):List MV→Option MV|[a]=>f a|_=>none
abbrev lD (f:MV→MV→Option MV):List MV→Option MV|[a,b]=>f a b|_=>none
abbrev Fl (f:MV→MV→MV→Option MV):List MV→Option MV|[a,b,c]=>f a b c|_=>none
abbrev NE (f:MV→MV→MV→MV→Option MV):List MV→Option MV|[a,b,c,d]=>f a b c d|_=>none
theorem NF {f:Option MV} {B:List MV→Option MV} (h:B []=f) {ms:List MV} {r:MV} (e:QA f ms=some r):B ms=some r:=by
 unfold QA at e;split at e
 ·rw [h];exact e
 ·cases e
theorem bH {f:MV→Option MV} {B:List MV→Option MV} (h: ∀a,B [a]=f a) {ms:List MV} {r:MV} (e:eY f ms=some r):B ms=some r:=by
 unfold eY at e;split at e
 ·rw [h];exact e
 ·cases e
theorem cU {f:MV→MV→Option MV} {B:List MV→Option MV} (h: ∀a b,B [a,b]=f a b) {ms:List MV} {r:MV} (e:lD f ms=some r):B ms=some r:=by
 unfold lD at e;split at e
 ·rw [h];exact e
 ·cases e
theorem sW {f:MV→MV→MV→Option MV} {B:List MV→Option MV} (h: ∀a b c,B [a,b,c]=f a b c) {ms:List MV} {r:MV} (e:Fl f ms=some r):B ms=some r:=by
 unfold Fl at e;split at e
 ·rw [h];exact e
 ·cases e
theorem GL {f:MV→MV→MV→MV→Option MV} {B:List MV→Option MV} (h: ∀a b c d,B [a,b,c,d]=f a b c d) {ms:List MV} {r:MV} (e:NE f ms=some r):B ms=some r:=by
 unfold NE at e;split at e
 ·rw [h];exact e
 ·cases e
theorem aC.fn {P:Program} {c c':Ctx} {g:Nat→List MV→Option MV} {n:Nat} {fn:Func} {bk:List (List Kd)} {F:List MV→Option MV} (h:aC P c g) (hl:rT c c') (Ny:c'.g=g) (iN:fc P c.ti) (dq:A5 P c.ti) (wo: ∀t k,c.fk t=some k→P.underlying t=some (.float k)) (Cb:pA P c) (vw:P.follows .mixedOrders=true) (uj:kR P c)
 (hf:P.funcs[n]? =some fn) (hh:rh c' n fn bk=true) (n6: ∀f,c.key f=f) {fresh:Option Nat} (vt:rU c' n fn fresh=true) (hF: ∀{ms r},F ms=some r→zC c' bk fresh fn ms=some r):aC P c (bQ n F g):=by
 have hb:=aC.body h hl Ny iN dq wo Cb vw uj hf hh n6 vt
 refine h.add (fun f ms r hk hr=> ?_)
 refine hb.all f ms r ?_
 unfold bQ
 rw [hk]
 simp [hF hr]
def Lg {α:Type} (p:α→Option Bool):List α→Option (List α)
 |[]=>some []
 |x::xs=>bd (p x) fun b=>bd (Lg p xs) fun ys=>some (if b then ys else x::ys)
def Lh {α σ:Type} (p:α→σ→Option (Bool×σ)):σ→List α→Option (List α×σ)
 |s,[]=>some ([],s)
 |s,x::xs=>bd (p x s) fun q=>bd (Lh p q.2 xs) fun r=>some (if q.1 then r.1 else x::r.1,r.2)
end Dn
/-
  A function's body in which a map is gone through, or a label stands. Conditions: none.
-/
set_option linter.unusedSimpArgs false
set_option linter.unusedVariables false
namespace Dn
open Go
section
variable {P:Program} {c:Ctx} {R:Type} {r:R}
theorem Fm {a b:Code} {l:Nat} (h:K9 a b=some l):a= .goto l∧b= .skip:=by
 unfold K9 at h
 split at h
 ·cases h;exact ⟨rfl,rfl⟩
 ·cases h
theorem Li (hG:Good P c) (hD:xb P c) {l:Nat} {G:St→Option R}: ∀(code:Code) {Z:aW} {e:Env} {st:St} {a:Act} {w:World} {K:Nat→St→Option R} {Q:Exit→Act→World→Prop},bj c Z e st a w→xt c l G code st K=some r→
 (∀n e' bc a' w',bj c Z e' bc a' w'→Trans Z.In e.φ w e'.φ w'→K n bc=some r→Q (eO n) a' w')→
 (∀e' bc a' w',bj c Z e' bc a' w'→Trans Z.In e.φ w e'.φ w'→G bc=some r→Q (.goto l) a' w')→code.wp P Q a w:=by
 intro code
 induction code with
 |seq x y VM OB=>
  intro Z e st a w K Q h hK hQ hJ
  simp only [xt] at hK
  refine wp_seq (VM h hK ?_ ?_)
  ·intro n e1 ca a1 w1 h1 t1 eX
   by_cases hn:n=0
   ·subst hn
    exact OB h1 eX (fun n e2 ch a2 w2 h2 t2 lz=>hQ n e2 ch a2 w2 h2 (t1.trans t2) lz) (fun e2 ch a2 w2 h2 t2 lz=>hJ e2 ch a2 w2 h2 (t1.trans t2) lz)
   ·rw [mY hn]
    have:Nat.beq n 0=false:=by rw [cm];simp [hn]
    simp only [this,cond_false] at eX
    exact hQ n e1 ca a1 w1 h1 t1 eX
  ·intro e1 ca a1 w1 h1 t1 eX
   exact hJ e1 ca a1 w1 h1 t1 eX
 |cond x y z _ _=>
  intro Z e st a w K Q h hK hQ hJ
  simp only [xt] at hK
  split at hK
  ·rename_i l' hg
   obtain ⟨rfl,rfl⟩:=Fm hg
   cases hb:Nat.beq l' l with
   |false=>rw [hb] at hK;cases hK
   |true=>
    rw [hb] at hK
    simp only [cond_true] at hK
    have hb:=Nat.eq_of_beq_eq_true hb
    subst hb
    obtain ⟨hx,_⟩:=h.eval x
    split at hK
    ·rename_i v hv
     rw [hv] at hx
     refine wp_cond (pu hx) ?_
     cases v with
     |true=>exact wp_goto (hJ e st a w h (.refl _ _ _) hK)
     |false=>exact wp_skip (hQ 0 e st a w h (.refl _ _ _) hK)
    ·cases hK
  ·exact lV hG hD _ h hK hQ
 |label l'=>
  intro Z e st a w K Q h hK hQ hJ
  exact wp_label (hQ 0 e st a w h (.refl _ _ _) hK)
 |_=>intro Z e st a w K Q h hK hQ hJ;simp only [xt] at hK;exact lV hG hD _ h hK hQ
theorem Lj (hG:Good P c) (hD:xb P c): ∀(code:Code) {Z:aW} {e:Env} {st:St} {a:Act} {w:World} {K:Nat→St→Option R} {Q:Exit→Act→World→Prop},bj c Z e st a w→vc c code st K=some r→
 (∀n e' bc a' w',bj c Z e' bc a' w'→Trans Z.In e.φ w e'.φ w'→K n bc=some r→Q (eO n) a' w')→code.wp P Q a w:=by
 intro code
 induction code with
 |seq x y _ OB=>
  intro Z e st a w K Q h hK hQ
  simp only [vc] at hK
  have Yq: ∀n e1 ca a1 w1,bj c Z e1 ca a1 w1→Trans Z.In e.φ w e1.φ w1→(bif Nat.beq n 0 then vc c y ca K else K n ca)=some r→Exit.then (y.wp P Q) Q (eO n) a1 w1:=by
   intro n e1 ca a1 w1 h1 t1 eX
   by_cases hn:n=0
   ·subst hn
    exact OB h1 eX (fun n e2 ch a2 w2 h2 t2 lz=>hQ n e2 ch a2 w2 h2 (t1.trans t2) lz)
   ·rw [mY hn]
    have:Nat.beq n 0=false:=by rw [cm];simp [hn]
    simp only [this,cond_false] at eX
    exact hQ n e1 ca a1 w1 h1 t1 eX
  split at hK
  ·rename_i q hq
   exact wp_seq (Qv hG hD hq h hK Yq)
  ·exact wp_seq (lV hG hD _ h hK Yq)
 |scope b _=>
  intro Z e st a w K Q h hK hQ
  simp only [vc] at hK
  split at hK
  ·rename_i rest hf
   have hx: ∀(J:Act→World→Prop) n (a':Act) (w':World),Q (eO n) a' w'→Exit.jump 0 J Q (eO n) a' w':=by
    intro J n a' w' hq
    match n,hq with
    |0,hq=>exact hq
    |1,hq=>exact hq
    |n+2,hq=>exact hq
   refine wp_scope_jumps 0 (fun a' w'=> ∃e' bc,bj c Z e' bc a' w'∧Trans Z.In e.φ w e'.φ w'∧eD c rest R bc K=some r) (fun _ _=>0) hf ?_ ?_
   ·refine Li hG hD b h hK (fun n e' bc a' w' h' t' Ou=>hx _ n a' w' (hQ n e' bc a' w' h' t' Ou)) ?_
    intro e' bc a' w' h' t' Ou
    exact ⟨rfl,e',bc,h',t',Ou⟩
   ·rintro a1 w1 ⟨e1,ca,h1,t1,eX⟩
    refine lV hG hD rest h1 eX ?_
    intro n e' bc a' w' h' t' Ou
    exact hx _ n a' w' (hQ n e' bc a' w' h' (t1.trans t') Ou)
  ·cases hK
 |_=>intro Z e st a w K Q h hK hQ;simp only [vc] at hK;exact lV hG hD _ h hK hQ
end
theorem aC.C7 {P:Program} {c c':Ctx} {g:Nat→List MV→Option MV} {n:Nat} {fn:Func} {bk:List (List Kd)} (h:aC P c g) (hl:rT c c') (Ny:c'.g=g) (iN:fc P c.ti) (dq:A5 P c.ti) (wo: ∀t k,c.fk t=some k→P.underlying t=some (.float k)) (Cb:pA P c) (vw:P.follows .mixedOrders=true) (uj:kR P c)
 (hf:P.funcs[n]? =some fn) (hh:rh c' n fn bk=true) (n6: ∀f,c.key f=f) {fresh:Option Nat} (vt:rU c' n fn fresh=true):aC P c (bQ n (Dn.C7 c' bk fresh fn) g):=by
 have hG:Good P c':=by
  refine ⟨by rw [hl.ti];exact iN,by rw [hl.ti];exact dq,fun f ms r hr=> ?_,by rw [hl.fk];exact wo,fun t s hs=>Cb t s ?_⟩
  ·rw [Ny,hl.key] at hr
   exact (h.all f ms r hr).gX hl
  ·rw [←hs];unfold mu Ctx.tv;rw [hl.mt,hl.ti]
 refine h.add (fun f ms r hk hr=> ?_)
 rw [n6] at hk
 subst hk
 simp only [rh,Bool.and_eq_true,Bool.not_eq_true'] at hh
 obtain ⟨⟨⟨h1,h2⟩,h3⟩,h4⟩:=hh
 have hD:=xr hG vw (uj.gX hl)
 exact (CP (fun b {r Z e st a w K Q} h hK hQ=>Lj hG hD b h hK hQ) hG hf h1 (Nat.eq_of_beq_eq_true h2) (Nat.le_of_ble_eq_true h3) (by rw [hl.key,n6];exact h4) (by rw [hl.key,n6];exact Aa vt) hr).gX hl.symm
theorem aC.UA {P:Program} {c c':Ctx} {g:Nat→List MV→Option MV} {n:Nat} {fn:Func} {bk:List (List Kd)} {F:List MV→Option MV} (h:aC P c g) (hl:rT c c') (Ny:c'.g=g) (iN:fc P c.ti) (dq:A5 P c.ti) (wo: ∀t k,c.fk t=some k→P.underlying t=some (.float k)) (Cb:pA P c) (vw:P.follows .mixedOrders=true) (uj:kR P c)
 (hf:P.funcs[n]? =some fn) (hh:rh c' n fn bk=true) (n6: ∀f,c.key f=f) {fresh:Option Nat} (vt:rU c' n fn fresh=true) (hF: ∀{ms r},F ms=some r→Dn.C7 c' bk fresh fn ms=some r):aC P c (bQ n F g):=by
 have hb:=aC.C7 h hl Ny iN dq wo Cb vw uj hf hh n6 vt
 refine h.add (fun f ms r hk hr=> ?_)
 refine hb.all f ms r ?_
 unfold bQ
 rw [hk]
 simp [hF hr]
theorem Lk {α ρ ρ':Type} {e:α→MV} {f:ρ'→ρ} {K:MV→Option (Sum Unit ρ)} {K':α→Option (Sum Unit ρ')} {d:Option ρ} {d':Option ρ'} {l:List MV} {M:List α} (hl:l=M.map e) (hd:Sm f d d') (h: ∀x,Sm (Sum.map id f) (K (e x)) (K' x)):
 Sm f (mD K d l) (mD K' d' M):=by
 subst hl
 have hg: ∀x,pH (K (e x))=pH (K' x):=by
  intro x
  rw [h x]
  cases K' x with
  |none=>rfl
  |some y=>cases y<;>rfl
 unfold Sm
 induction M with
 |nil=>exact hd
 |cons x M ih=>
  have hx:=h x
  unfold Sm at hx
  simp only [List.map_cons,mD,hx]
  cases hk:K' x with
  |none=>rfl
  |some y=>
   cases y with
   |inl u=>exact ih
   |inr r=>
    simp only [Option.map_some,Sum.map_inr,List.all_map]
    have:(M.all ((fun y=>pH (K y))∘e))=M.all fun y=>pH (K' y):=by
     congr 1
     funext y
     exact hg y
    rw [this]
    cases M.all fun y=>pH (K' y)<;>rfl
theorem QB {A B:Type} {g:B→A} {m:MV} {K:List UInt8→Int→Option A} {K':List UInt8→Int→Option B} (h: ∀key n,Sm g (K key n) (K' key n)):Sm g (C6 m K) (C6 m K'):=by
 have hN: ∀{l:List MV} {X:Option A} {X':Option B},Sm g X X'→Sm g (gN l X) (gN l X'):=by intro l X X' h;cases l<;>first|exact h|rfl
 have hC: ∀{l:List MV} {X:MV→List MV→Option A} {X':MV→List MV→Option B},(∀a b,Sm g (X a b) (X' a b))→Sm g (gC l X) (gC l X'):=by intro l X X' h;cases l<;>first|exact h _ _|rfl
 unfold C6
 cases m<;>first|rfl|skip
 refine hC fun ka r=> ?_
 cases ka<;>first|rfl|skip
 refine hC fun k0 kr=>hN ?_
 cases k0<;>first|rfl|skip
 refine hC fun v0 vr=>hN ?_
 cases v0<;>first|rfl|skip
 rename_i k n
 simp only [gI]
 cases decide (k=IntKind.i64)<;>first|rfl|exact h _ _
theorem NG {A B:Type} {g:B→A} {p q:Prop} [Decidable p] [Decidable q] {X:Option A} {X':Option B} (e:p↔q) (h1:Sm g X X'):Sm g (b9 (decide p) X) (if q then X' else none):=by
 by_cases hp:p
 ·rw [if_pos (e.1 hp),decide_eq_true hp];exact h1
 ·rw [if_neg (fun h=>hp (e.2 h)),decide_eq_false hp];rfl
theorem QC {A B:Type} {g:B→A} {T:Option B} {x:List MV} {K:List MV→Option A} (h:Sm g (K x) T):Sm g (Q8 (.clip x) K) T:=h
@[reducible] def Tw {α : Type} (f : α → MV) (l : List α) : MV := .clip (l.map f)
end Dn
/-
  Reasoning about functions on typed values. Conditions: none.
-/
set_option linter.unusedVariables false
namespace Dn
open Go
section
variable {α R:Type}
theorem cG {l:List α} {k:Nat} (h:k<l.length) (K:α→Option R):ix l (k:Int) K=K l[k]:=by
 simp [ix,h]
theorem gn {l:List α} (h:0<l.length) (K:α→Option R):ix l 0 K=K l[0]:=by simp [ix,h]
@[simp] theorem G4 {A : Type} (x : Option A) : bd x (fun a => some a) = x := by cases x <;> rfl
end
def bE {A:Type} (x:Option A) (Q:A→Prop):Prop:= ∃a,x=some a∧Q a
section
variable {A B α σ ρ:Type}
theorem bE.mk {a:A} {Q:A→Prop} (h:Q a):bE (some a) Q:=⟨a,rfl,h⟩
theorem bE.of {x:Option A} {a:A} {Q:A→Prop} (e:x=some a) (h:Q a):bE x Q:=⟨a,e,h⟩
theorem bE.bd {x:Option A} {K:A→Option B} {P:A→Prop} {Q:B→Prop} (h:bE x P) (hk: ∀a,P a→bE (K a) Q):bE (bd x K) Q:=by
 obtain ⟨a,rfl,hp⟩:=h;exact hk a hp
theorem bE.ite {c:Prop} [Decidable c] {x y:Option A} {Q:A→Prop} (h1:c→bE x Q) (h2: ¬c→bE y Q):bE (if c then x else y) Q:=by
 split
 ·exact h1 ‹_›
 ·exact h2 ‹_›
theorem bE.imp {x:Option A} {P Q:A→Prop} (h:bE x P) (EY: ∀a,P a→Q a):bE x Q:=by
 obtain ⟨a,e,hp⟩:=h;exact ⟨a,e,EY a hp⟩
theorem bE.ix {l:List α} {k:Nat} {K:α→Option A} {Q:A→Prop} (h:k<l.length) (hk:bE (K l[k]) Q):bE (ix l (k:Int) K) Q:=by rw [cG h];exact hk
theorem bE.eq {x:Option A} {a:A} (h:bE x (· =a)):x=some a:=by obtain ⟨b,e,rfl⟩:=h;exact e
variable {body:σ→Option (Sum σ ρ)}
theorem bE.loop (I:σ→Prop) (μ:σ→Nat) {Q:ρ→Prop} {s:σ} (hs:I s) (h: ∀s,I s→bE (body s) fun x=>match x with| .inl s'=>I s'∧μ s'<μ s| .inr r=>Q r):bE (Loop body s) Q:=by
 refine Lb I μ Q (fun s hs=> ?_) hs
 obtain ⟨x,e,hx⟩:=h s hs
 cases x with
 |inl s'=>exact .inl ⟨s',e,hx⟩
 |inr r=>exact .inr ⟨r,e,hx⟩
theorem bE.count (S:Nat→σ) (n:Nat) {Q:ρ→Prop} (P:Nat→Prop) {s:σ} (e:s=S 0) (h0:P 0) (h: ∀k,k<n→P k→bE (body (S k)) fun x=>match x with| .inl s'=>s'=S (k+1)∧P (k+1)| .inr r=>Q r)
 (he:P n→bE (body (S n)) fun x=>match x with| .inl _=>False| .inr r=>Q r):bE (Loop body s) Q:=by
 subst e
 refine Lc S n Q P h0 (fun k hk hp=> ?_) (fun hp=> ?_)
 ·obtain ⟨x,e,hx⟩:=h k hk hp
  cases x with
  |inl s'=>obtain ⟨rfl,hx⟩:=hx;exact .inl ⟨e,hx⟩
  |inr r=>exact .inr ⟨r,e,hx⟩
 ·obtain ⟨x,e,hx⟩:=he hp
  cases x with
  |inl s'=>exact hx.elim
  |inr r=>exact ⟨r,e,hx⟩
end
theorem wrap64 {x:Int} (h1: -9223372036854775808≤x) (h2:x≤9223372036854775807):IntKind.wrap .i64 x=x:=ND h1 h2
end Dn
/-
  Functions of the library, on typed values. Conditions: none.
-/
set_option linter.unusedVariables false
namespace Dn
open Go
def O2 {α:Type} (key:α→Int) (L:List α) (s:Int):Nat:=L.countP (fun e=>decide (key e<s))
def T2 {α:Type} (key:α→Int) (L:List α) (s:Int):Bool:=L.any fun e=>decide (key e=s)
def yb {α:Type} (key:α→Int) (L:List α):Prop:=L.Pairwise fun a b=>key a<key b
section
variable {α τ:Type} {key:α→Int}
theorem QY {L:List α} {s:Int} {p:Nat} (hp:p≤L.length) (h1: ∀k (hk:k<L.length),k<p→key L[k]<s) (h2: ∀k (hk:k<L.length),p≤k→s≤key L[k]):O2 key L s=p:=by
 have h3:(L.take p).countP (fun e=>decide (key e<s))=(L.take p).length:=by
  rw [List.countP_eq_length]
  intro a ha
  obtain ⟨k,hk,rfl⟩:=List.mem_iff_getElem.1 ha
  have D8:k<p:=by rw [List.length_take] at hk;omega
  rw [List.getElem_take]
  exact decide_eq_true (h1 k (by omega) D8)
 have h4:(L.drop p).countP (fun e=>decide (key e<s))=0:=by
  rw [List.countP_eq_zero]
  intro a ha
  obtain ⟨k,hk,rfl⟩:=List.mem_iff_getElem.1 ha
  rw [List.length_drop] at hk
  rw [List.getElem_drop]
  have:=h2 (p+k) (by omega) (by omega)
  simp;omega
 have h5:O2 key L s=(L.take p++L.drop p).countP (fun e=>decide (key e<s)):=by rw [List.take_append_drop];rfl
 rw [h5,List.countP_append,h3,h4,List.length_take]
 omega
theorem yb.lt {L:List α} (hs:yb key L) {i j:Nat} (hj:j<L.length) (h:i<j):key (L[i]'(by omega))<key L[j]:=List.pairwise_iff_getElem.1 hs i j (by omega) hj h
theorem yb.le {L:List α} (hs:yb key L) {i j:Nat} (hj:j<L.length) (h:i≤j):key (L[i]'(by omega))≤key L[j]:=by
 rcases Nat.lt_or_eq_of_le h with h|h
 ·exact Int.le_of_lt (hs.lt hj h)
 ·subst h;exact Int.le_refl _
theorem yb.lb {L:List α} (hs:yb key L) (s:Int):(∀k (hk:k<L.length),k<O2 key L s→key L[k]<s)∧(∀k (hk:k<L.length),O2 key L s≤k→s≤key L[k]):=by
 have: ∃p,p≤L.length∧(∀k (hk:k<L.length),k<p→key L[k]<s)∧(∀k (hk:k<L.length),p≤k→s≤key L[k]):=by
  induction L with
  |nil=>exact ⟨0,Nat.le_refl _,fun k hk=>by simp at hk,fun k hk=>by simp at hk⟩
  |cons a l ih=>
   have pg:=List.pairwise_cons.1 hs
   by_cases ha:key a<s
   ·obtain ⟨p,h1,h2,h3⟩:=ih pg.2
    refine ⟨p+1,by simp;omega,fun k hk Yw=> ?_,fun k hk Yw=> ?_⟩
    ·cases k with
     |zero=>exact ha
     |succ k=>exact h2 k (by simpa using hk) (by omega)
    ·cases k with
     |zero=>omega
     |succ k=>exact h3 k (by simpa using hk) (by omega)
   ·refine ⟨0,Nat.zero_le _,fun k hk Yw=>by omega,fun k hk _=> ?_⟩
    cases k with
    |zero=>simp;omega
    |succ k=>
     have:=pg.1 (l[k]'(by simpa using hk)) (List.getElem_mem _)
     simp only [List.getElem_cons_succ];omega
 obtain ⟨p,h1,h2,h3⟩:=this
 rw [QY h1 h2 h3]
 exact ⟨h2,h3⟩
theorem yb.has {L:List α} (hs:yb key L) (s:Int):T2 key L s=true↔ ∃h:O2 key L s<L.length,key L[O2 key L s]=s:=by
 obtain ⟨h1,h2⟩:=hs.lb s
 unfold T2
 rw [List.any_eq_true]
 constructor
 ·rintro ⟨x,hx,he⟩
  obtain ⟨k,hk,rfl⟩:=List.mem_iff_getElem.1 hx
  have he:key L[k]=s:=by simpa using he
  have JW:O2 key L s≤k:=by
   refine Nat.le_of_not_lt fun dE=> ?_
   have:=h1 k hk dE;omega
  have hl:O2 key L s<L.length:=by omega
  refine ⟨hl,?_⟩
  have:=h2 _ hl (Nat.le_refl _)
  have:=hs.le hk JW
  omega
 ·rintro ⟨h,he⟩
  exact ⟨_,List.getElem_mem h,decide_eq_true he⟩
end
section
variable {α ρ:Type}
theorem p0 {body:Int→Option (Int⊕(Unit⊕ρ))} (n:Nat) (p:Nat→Prop) (c:ρ) (h: ∀k,k<n→(∀j,j<k→p j)→(p k→body (k:Int)=some (.inl ((k+1:Nat):Int)))∧(¬p k→body (k:Int)=some (.inr (.inr c))))
 (he:body (n:Int)=some (.inr (.inl ()))):bE (Loop body 0) fun r=>(r= .inl ()∧ ∀k,k<n→p k)∨(r= .inr c∧ ∃k,k<n∧ ¬p k):=by
 refine bE.count (fun k=>(k:Int)) n (fun k=> ∀j,j<k→p j) rfl (fun j hj=>by omega) (fun k hk hp=> ?_) (fun hp=> ?_)
 ·by_cases Mo:p k
  ·refine .of ((h k hk hp).1 Mo) ⟨rfl,fun j hj=> ?_⟩
   by_cases S7:j=k
   ·subst S7;exact Mo
   ·exact hp j (by omega)
  ·exact .of ((h k hk hp).2 Mo) (.inr ⟨rfl,k,hk,Mo⟩)
 ·exact .of he (.inl ⟨rfl,hp⟩)
theorem Im [DecidableEq α] {a b:List α} {body:Int→Option (Int⊕(Unit⊕Bool))} (hl:a.length=b.length) (h: ∀k (ha:k<a.length) (hb:k<b.length),body (k:Int)=some (if a[k]=b[k] then .inl ((k+1:Nat):Int) else .inr (.inr false)))
 (he:body (a.length:Int)=some (.inr (.inl ()))):Loop body 0=some (if a=b then .inl () else .inr false):=by
 obtain ⟨r,e,hr⟩:=p0 (body:=body) a.length (fun k=>a[k]? =b[k]?) false (fun k hk _=>by
  have Yx:k<b.length:=by omega
  rw [List.getElem?_eq_getElem hk,List.getElem?_eq_getElem Yx,h k hk Yx]
  constructor
  ·intro hh;rw [if_pos (by simpa using hh)]
  ·intro hh;rw [if_neg (by simpa using hh)]) he
 rw [e]
 rcases hr with ⟨rfl,kL⟩|⟨rfl,k,hk,cz⟩
 ·rw [if_pos]
  refine List.ext_getElem? fun k=> ?_
  by_cases hk:k<a.length
  ·exact kL k hk
  ·rw [List.getElem?_eq_none (by omega),List.getElem?_eq_none (by omega)]
 ·rw [if_neg]
  intro W4;subst W4;exact cz rfl
end
end Dn
/-
  Maps as lists of entries: what is there behind a store. Conditions: none.
-/
set_option linter.unusedVariables false
namespace Dn
open Go
end Dn
/-
  Runs with a bound on their rounds. Conditions: none.
-/
set_option linter.unusedVariables false
namespace Dn
open Go
def AD {σ R:Type} (n:Nat) (body:σ→Option (Sum σ R)) (s:σ):Option R:=iter body n s
def Le {A:Type} (x y:Option A):Prop:= ∀a,x=some a→y=some a
section
variable {A B σ ρ α:Type}
theorem Le.rfl' (x:Option A):Le x x:=fun _ h=>h
theorem Le.bd {x x':Option A} {K K':A→Option B} (h:Le x x') (hk: ∀a,Le (K a) (K' a)):Le (bd x K) (bd x' K'):=by
 intro b hb
 cases hx:x with
 |none=>rw [hx] at hb;cases hb
 |some a=>rw [hx] at hb;rw [h a hx];exact hk a b hb
theorem Le.ite {c:Prop} [Decidable c] {x y x' y':Option A} (h1:Le x x') (h2:Le y y'):Le (if c then x else y) (if c then x' else y'):=by
 split
 ·exact h1
 ·exact h2
theorem Le.ix {l:List α} {i:Int} {K K':α→Option A} (h: ∀a,Le (K a) (K' a)):Le (ix l i K) (ix l i K'):=by
 unfold Dn.ix
 split
 ·exact h _
 ·exact Le.rfl' _
theorem Le.iter {K K':σ→Option (Sum σ ρ)} (h: ∀s,Le (K s) (K' s)) (n:Nat) (s:σ):Le (iter K n s) (iter K' n s):=by
 induction n generalizing s with
 |zero=>exact Le.rfl' _
 |succ n ih=>
  intro r hr
  simp only [Dn.iter] at hr⊢
  cases hk:K s with
  |none=>rw [hk] at hr;cases hr
  |some x=>
   rw [hk] at hr
   rw [h s x hk]
   cases x with
   |inl s'=>exact ih s' r hr
   |inr r'=>exact hr
theorem Le.loop {n:Nat} {K K':σ→Option (Sum σ ρ)} {s:σ} (h: ∀s,Le (K s) (K' s)):Le (AD n K s) (Loop K' s):=fun r hr=>er (Le.iter h n s r hr)
theorem Le.sum {P Q:Type} {x:P⊕Q} {f f':P→Option A} {g g':Q→Option A} (h1: ∀p,Le (f p) (f' p)) (h2: ∀q,Le (g q) (g' q)):Le (match x with| .inl p=>f p| .inr q=>g q) (match x with| .inl p=>f' p| .inr q=>g' q):=by
 cases x
 ·exact h1 _
 ·exact h2 _
end
theorem Le.gY {α:Type} {p q:α→Option Bool} (h: ∀x,Le (p x) (q x)): ∀L:List α,Le (Lg p L) (Lg q L)
 |[]=>Le.rfl' _
 |x::xs=>Le.bd (h x) fun b=>Le.bd (Le.gY h xs) fun _=>Le.rfl' _
theorem Le.gZ {α σ:Type} {p q:α→σ→Option (Bool×σ)} (h: ∀x s,Le (p x s) (q x s)): ∀(s:σ) (L:List α),Le (Lh p s L) (Lh q s L)
 |s,[]=>Le.rfl' _
 |s,x::xs=>Le.bd (h x s) fun b=>Le.bd (Le.gZ h b.2 xs) fun _=>Le.rfl' _
end Dn
