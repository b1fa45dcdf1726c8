import Derived.Test.YtjblhgpbkfmkoaaDnB
import Derived.ProofKit
import Derived.OpenShut
import Derived.Laws.CopyRow
import Derived.Lib.AppendZerosOnto
import Derived.Lib.Overlaps
import Derived.Laws.Externs
import Derived.Control
import Derived.Maps.RangeRun
import Derived.ScopeJumps
/-
  What arguments read as: values of their types. Conditions: none.
-/
set_option linter.unusedSimpArgs false
set_option linter.unusedVariables false
namespace Dn
open Go Go.WideShapes
def wm (W:World):Ph:=fun b o=>W.cell? ⟨b,o,none⟩
theorem NX (W:World):uq (wm W) W:=fun b o v h=>h
def DR (P:Program):List Field→Nat→Nat→Bool
 |[],o,n=>Nat.beq o n
 |f::fs,o,n=>Nat.beq f.offset o&&DR P fs (o+P.cellsOf f.type) n
def Sz (P:Program):Nat→TypeId→Bool
 |0,_=>false
 |d+1,t=>match P.underlying t with
  |some .bool=>true
  |some (.int _)=>true
  |some .string=>true
  |some (.slice e)=>Sz P d e&&Nat.ble 1 (P.cellsOf e)
  |some (.struct fs)=>DR P fs.toList 0 (P.cellsOf t)&&fs.toList.all fun f=>Sz P d f.type
  |some (.array n e)=>Nat.beq n 32&&(match P.underlying e with|some (.int .u8)=>true|_=>false)&&Nat.beq (P.cellsOf e) 1&&Nat.beq (P.cellsOf t) 32
  |_=>false
def ME (P:Program) (F:TypeId→List MV→Prop) (e:TypeId) (x:MV):Prop:=
 match P.underlying e with
 |some (.struct _)=> ∃cs,x= .agg cs∧F e cs
 |_=>F e [x]
def FT (F:TypeId→List MV→Prop):List TypeId→List MV→Prop
 |[],ms=>ms=[]
 |t::ts,ms=> ∃a b,ms=a++b∧F t a∧FT F ts b
def MT (P:Program):Nat→TypeId→List MV→Prop
 |0,_,_=>False
 |d+1,t,ms=>match P.underlying t with
  |some .bool=> ∃b,ms=[.b b]
  |some (.int k)=> ∃n,ms=[.i k n]∧(Lit.int k n).wf=true
  |some .string=> ∃l:List UInt8,ms=[.s l]∧l.length≤maxLen
  |some (.slice e)=> ∃xs,ms=[.list xs]∧xs.length≤maxLen∧ ∀x∈xs,ME P (MT P d) e x
  |some (.struct fs)=>FT (MT P d) (fs.toList.map (·.type)) ms
  |some (.array _ _)=> ∃h,ms=[.h h]
  |_=>False
section
variable {H:Type} {enc:TypeId×Value→H} {P:Program} {W:World} {base:Nat} {sp:Nat→Bool} {held:Bool} {key:Nat→Nat}
theorem dU.append {key:Nat→Nat} {φ:Ph} {ms ns:List MV}: ∀{vs us:List Value},dU key φ vs ms→dU key φ us ns→dU key φ (vs++us) (ms++ns):=by
 induction ms with
 |nil=>intro vs us h h';cases h;simpa using h'
 |cons m ms ih=>
  intro vs us h h'
  cases h with
  |cons v _ vs _ h1 h2=>rw [List.append_assoc];exact .cons v m _ _ h1 (ih h2 h')
theorem dU.NY {key:Nat→Nat} {φ:Ph} {v:Value} {m:MV} (h:gE key φ [v] m):dU key φ [v] [m]:=by
 have:=dU.cons [v] m [] [] h .nil
 simpa using this
theorem dU.single {key:Nat→Nat} {φ:Ph} {vs:List Value} {m:MV} (h:dU key φ vs [m]):gE key φ vs m:=by
 cases h with
 |cons v _ vs _ h1 h2=>cases h2;simpa using h1
theorem wo {a:Addr} {n:Nat} {cs:List Value} (h:W.cells? base a n=some cs):cs.length=n∧ ∀j,j<n→W.cell? (a.add j)=cs[j]? :=by
 unfold World.cells? at h
 split at h
 ·have hl:=mapM_some_length h
  refine ⟨by simpa using hl,fun j hj=> ?_⟩
  exact mapM_some_get h j j (by simp [hj])
 ·cases h
theorem FI {F:TypeId→List MV→Prop} {fuel:Nat} {cs:List Value}: ∀(fs:List Field) (o n:Nat) (xs:List (DataW H×List MemPlace)),DR P fs o n=true→cs.length=n→
 (∀(i:Nat) (f:Field),fs[i]? =some f→DataW.trod enc P W base sp held fuel f.type ((cs.drop f.offset).take (P.cellsOf f.type))=xs[i]?)→xs.length=fs.length→
 (∀f∈fs,∀dp x,DataW.trod enc P W base sp held fuel f.type dp=some x→ ∃ms,dU key (wm W) dp ms∧F f.type ms)→
 ∃ms,dU key (wm W) (cs.drop o) ms∧FT F (fs.map (·.type)) ms:=by
 intro fs
 induction fs with
 |nil=>
  intro o n xs hc hl _ _ _
  have:o=n:=Nat.eq_of_beq_eq_true hc
  subst this
  refine ⟨[],?_,rfl⟩
  rw [←hl,List.drop_length];exact .nil
 |cons f fs ih=>
  intro o n xs hc hl hx TE hF
  simp only [DR,Bool.and_eq_true] at hc
  have ho:=Nat.eq_of_beq_eq_true hc.1
  cases xs with
  |nil=>simp at TE
  |cons x xs=>
   have h0:=hx 0 f rfl
   rw [ho] at h0
   obtain ⟨m1,r1,t1⟩:=hF f (by simp) _ x (by simpa using h0)
   obtain ⟨m2,r2,t2⟩:=ih (o+P.cellsOf f.type) n xs hc.2 hl (fun i g hg=>by have:=hx (i+1) g (by simpa using hg);simpa using this) (by simpa using TE) (fun g hg=>hF g (by simp [hg]))
   refine ⟨m1++m2,?_,m1,m2,rfl,t1,t2⟩
   have:=r1.append r2
   rw [←List.drop_drop,List.take_append_drop] at this
   exact this
theorem NZ: ∀(fuel D:Nat) (t:TypeId) (cs:List Value) (x:DataW H×List MemPlace),Sz P D t=true→DataW.trod enc P W base sp held fuel t cs=some x→
 ∃ms,dU key (wm W) cs ms∧MT P fuel t ms:=by
 intro fuel
 induction fuel with
 |zero=>intro D t cs x _ h;simp [DataW.trod] at h
 |succ fuel ih=>
  intro D t cs x hD h
  cases D with
  |zero=>simp [Sz] at hD
  |succ D=>
   unfold Sz at hD
   cases hu:P.underlying t with
   |none=>simp [hu] at hD
   |some d=>
    cases d<;>simp only [hu] at hD<;>try (cases hD;done)
    case bool=>
     obtain ⟨b,rfl,_⟩:=DataW.trod_bool hu h
     exact ⟨[.b b],.NY (.b b),by simp only [MT,hu];exact ⟨b,rfl⟩⟩
    case int k=>
     obtain ⟨n,rfl,_,hw⟩:=DataW.trod_int hu h
     exact ⟨[.i k n],.NY (.i k n),by simp only [MT,hu];exact ⟨n,rfl,hw⟩⟩
    case string=>
     obtain ⟨s,rfl,_,hw⟩:=DataW.trod_string hu h
     exact ⟨[.s s.data.toList],.NY (.s s),by simp only [MT,hu];exact ⟨_,rfl,by simpa using hw⟩⟩
    case struct fs=>
     obtain ⟨xs,n,hn,_,hl,TE,hx⟩:=DataW.trod_struct hu h
     have hn:n=fuel:=by omega
     subst hn
     simp only [Bool.and_eq_true] at hD
     obtain ⟨ms,r1,t1⟩:=FI (F:=MT P n) (key:=key) fs.toList 0 (P.cellsOf t) xs hD.1 hl (fun i f hf=>hx i f (by simpa using hf)) (by simpa using TE)
      (fun f hf dp x' h'=>ih D f.type dp x' (List.all_eq_true.1 hD.2 f hf) h')
     exact ⟨ms,by simpa using r1,by simp only [MT,hu];exact t1⟩
    case slice e=>
     simp only [Bool.and_eq_true] at hD
     have dk:1≤P.cellsOf e:=Nat.le_of_ble_eq_true hD.2
     rcases DataW.trod_slice hu h with ⟨rfl,_⟩|⟨a,len,cap,elems,rest,n,hn,rfl,_,_,hlc,EM,Sc,hx,_⟩
     ·refine ⟨[.list []],.NY (.list none 0 [] 0 0 0 (fun _=>[]) (by simp) (by simp) (by simp) (by simp) (by simp)),?_⟩
      simp only [MT,hu]
      exact ⟨[],rfl,Nat.zero_le _,by simp⟩
     ·have hn:n=fuel:=by omega
      subst hn
      have fJ: ∀i,i<len→ ∃dp m,W.cells? base (a.add (i *P.cellsOf e)) (P.cellsOf e)=some dp∧gE key (wm W) dp m∧ME P (MT P n) e m:=by
       intro i hi
       have h1:=hx i hi
       cases hc:W.cells? base (a.add (i *P.cellsOf e)) (P.cellsOf e) with
       |none=>
        rw [hc] at h1
        have:elems[i]? =none:=by simpa using h1.symm
        rw [List.getElem?_eq_none_iff] at this
        omega
       |some dp=>
        rw [hc] at h1
        have cA:i<elems.length:=by omega
        rw [List.getElem?_eq_getElem cA] at h1
        obtain ⟨ms,r1,t1⟩:=ih D e dp _ hD.1 (by simpa using h1)
        have HH:=hD.1
        by_cases hs: ∃fs,P.underlying e=some (.struct fs)
        ·obtain ⟨fs,hs⟩:=hs
         exact ⟨dp,.agg ms,rfl,.agg dp ms r1,by simp only [ME,hs];exact ⟨ms,rfl,t1⟩⟩
        ·have h1m: ∃m,ms=[m]:=by
          cases n with
          |zero=>exact t1.elim
          |succ n=>
           simp only [MT] at t1
           cases Sg:P.underlying e with
           |none=>simp [Sg] at t1
           |some de=>
            cases de<;>simp only [Sg] at t1<;>first
             |exact t1.elim
             |(obtain ⟨y,hy,_⟩:=t1;exact ⟨_,hy⟩)
             |(obtain ⟨y,hy⟩:=t1;exact ⟨_,hy⟩)
             |exact absurd ⟨_,Sg⟩ hs
         obtain ⟨m,rfl⟩:=h1m
         refine ⟨dp,m,rfl,r1.single,?_⟩
         unfold ME
         cases Sg:P.underlying e with
         |none=>exact t1
         |some de=>cases de<;>first|exact t1|exact absurd ⟨_,Sg⟩ hs
      let f:Nat→List Value:=fun i=>(W.cells? base (a.add (i *P.cellsOf e)) (P.cellsOf e)).getD []
      let g:Nat→MV:=fun i=>if hi:i<len then Classical.choose (Classical.choose_spec (fJ i hi)) else default
      have ER: ∀i,i<len→W.cells? base (a.add (i *P.cellsOf e)) (P.cellsOf e)=some (f i)∧gE key (wm W) (f i) (g i)∧ME P (MT P n) e (g i):=by
       intro i hi
       have V9:=Classical.choose_spec (Classical.choose_spec (fJ i hi))
       have hf:f i=Classical.choose (fJ i hi):=by
        show (W.cells? base (a.add (i *P.cellsOf e)) (P.cellsOf e)).getD []=_
        exact congrArg (fun o=>o.getD []) V9.1
       have hg:g i=Classical.choose (Classical.choose_spec (fJ i hi)):=by
        show (if hi:i<len then _ else _)=_
        rw [dif_pos hi]
       rw [hf,hg];exact V9
      have SA:0<len→a=⟨a.block,a.off,none⟩:=by
       intro h0
       obtain ⟨h1,_,_⟩:=ER 0 h0
       obtain ⟨lj,hcg⟩:=wo h1
       have:=hcg 0 (by omega)
       rw [Nat.zero_mul] at this
       have hz:(a.add 0).add 0=a:=rfl
       rw [hz] at this
       have cA:0<(f 0).length:=by omega
       rw [List.getElem?_eq_getElem cA] at this
       unfold World.cell? at this
       split at this
       ·cases V9:a.spot with
        |none=>cases a;simp at V9;subst V9;rfl
        |some s=>simp [V9] at this
       ·cases this
      have XA: ∀i j,i<len→j<P.cellsOf e→wm W a.block (a.off+i *P.cellsOf e+j)=(f i)[j]? :=by
       intro i j hi hj
       obtain ⟨h1,_,_⟩:=ER i hi
       obtain ⟨lj,hcg⟩:=wo h1
       have:=hcg j hj
       rw [←this]
       unfold wm
       congr 1
       have ha:=SA (by omega)
       rw [ha]
       rw [Addr.add_mid,Addr.add_mid]
      refine ⟨[.list ((List.range len).map g)],.NY ?_,?_⟩
      ·have hlen:((List.range len).map g).length=len:=by simp
       have:=gE.list (key:=key) (φ:=wm W) (some a) cap ((List.range len).map g) a.block a.off (P.cellsOf e) f (by rw [hlen];exact hlc) (fun h0=>by rw [hlen] at h0;exact congrArg some (SA h0))
        (fun i hi=>by rw [hlen] at hi;exact (wo (ER i hi).1).1) (fun i j hi hj=>XA i j (by rw [hlen] at hi;exact hi) hj)
        (fun i hi=>by simp at hi;simpa using (ER i hi).2.1)
       rw [hlen] at this
       exact this
      ·simp only [MT,hu]
       refine ⟨_,rfl,by simp;omega,fun y hy=> ?_⟩
       obtain ⟨i,hi,rfl⟩:=List.mem_map.1 hy
       exact (ER i (by simpa using hi)).2.2
    case array n e=>
     simp only [Bool.and_eq_true] at hD
     obtain ⟨⟨⟨h1,h2⟩,h3⟩,h4⟩:=hD
     have h1:=Nat.eq_of_beq_eq_true h1
     have h3:=Nat.eq_of_beq_eq_true h3
     have h4:=Nat.eq_of_beq_eq_true h4
     subst h1
     obtain ⟨xs,m,hm,_,hl,TE,hx⟩:=DataW.trod_array hu h
     rw [h4] at hl
     split at h2
     ·rename_i Sg
      have nm: ∀i (hi:i<cs.length),∃b:UInt8,cs[i]= .int .u8 (b.toNat:Int):=by
       intro i hi
       have Hr:i<32:=by omega
       have:=hx i Hr
       rw [h3,Nat.mul_one] at this
       have Je:(cs.drop i).take 1=[cs[i]]:=by
        rw [List.take_one,List.head?_drop,List.getElem?_eq_getElem hi];rfl
       rw [Je,List.getElem?_eq_getElem (by omega)] at this
       obtain ⟨k,hk,_,hw⟩:=DataW.trod_int Sg this
       simp only [List.cons.injEq,and_true] at hk
       refine ⟨UInt8.ofNat k.toNat,?_⟩
       rw [hk]
       simp only [Lit.wf,Bool.and_eq_true,decide_eq_true_eq] at hw
       have M4:IntKind.u8.min=0:=by decide
       have abk:IntKind.u8.max=255:=by decide
       rw [M4,abk] at hw
       congr 1
       have:(UInt8.ofNat k.toNat).toNat=k.toNat:=by
        rw [UInt8.toNat_ofNat'];omega
       rw [this];omega
      have: ∃l:List UInt8,cs=l.map fun b=>Value.int .u8 (b.toNat:Int):=by
       clear hx hl h
       induction cs with
       |nil=>exact ⟨[],rfl⟩
       |cons c cs ihc=>
        obtain ⟨b,hb⟩:=nm 0 (by simp)
        obtain ⟨l,hl⟩:=ihc (fun i hi=>by have:=nm (i+1) (by simpa using hi);simpa using this)
        exact ⟨b::l,by simp at hb;rw [hb,hl];rfl⟩
      obtain ⟨l,rfl⟩:=this
      have TZ:l.length=32:=by simpa using hl
      refine ⟨[.h ⟨l,TZ⟩],?_,by simp only [MT,hu];exact ⟨_,rfl⟩⟩
      have:=dU.cons (key:=key) (φ:=wm W) _ (.h ⟨l,TZ⟩) [] [] (.h ⟨l,TZ⟩) .nil
      simpa using this
     ·cases h2
theorem N0 {r:Reach} {b0 D:Nat} {t:TypeId} {v:Value} {d:DataW H} {ps:List MemPlace} (hD:Sz P D t=true) (hv:Value.okWide P W r b0 t v) (h:DataW.Trod enc P W base sp held t v d ps):
 ∃m n,dW key (wm W) v m∧ME P (MT P n) t m:=by
 obtain ⟨fuel,hf⟩:=h
 obtain ⟨ms,r1,t1⟩:=NZ (key:=key) fuel D t _ _ hD hf
 cases fuel with
 |zero=>exact t1.elim
 |succ fuel=>
  have t2:=t1
  simp only [MT] at t1
  cases hu:P.underlying t with
  |none=>simp [hu] at t1
  |some k=>
   simp only [hu] at t1
   cases k<;>simp only at t1<;>try (exact t1.elim)
   case bool=>
    obtain ⟨b,rfl⟩:=t1
    obtain ⟨b',rfl⟩:=okWide_bool hu hv
    refine ⟨.b b,fuel+1,⟨rfl,r1.single⟩,by unfold ME;simp only [hu];exact t2⟩
   case int k=>
    obtain ⟨n,rfl,_⟩:=t1
    obtain ⟨n',rfl⟩:=okWide_int hu hv
    refine ⟨.i k n,fuel+1,⟨rfl,r1.single⟩,by unfold ME;simp only [hu];exact t2⟩
   case string=>
    obtain ⟨l,rfl,_⟩:=t1
    obtain ⟨s',rfl⟩:=okWide_string hu hv
    refine ⟨.s l,fuel+1,⟨rfl,r1.single⟩,by unfold ME;simp only [hu];exact t2⟩
   case slice e=>
    obtain ⟨xs,rfl,_⟩:=t1
    have hvc:v.cells.toList=[v]:=by
     simp only [Value.okWide,hu,Cell.okWide] at hv
     cases v<;>simp_all [Cell.ok,Value.cells]
    rw [hvc] at r1
    refine ⟨.list xs,fuel+1,⟨rfl,r1.single⟩,by unfold ME;simp only [hu];exact t2⟩
   case struct fs=>
    obtain ⟨arr,rfl,_⟩:=okWide_struct hu hv
    refine ⟨.agg ms,fuel+1,⟨arr,rfl,by simpa [Value.cells] using r1⟩,by unfold ME;simp only [hu];exact ⟨ms,rfl,t2⟩⟩
   case array n e=>
    obtain ⟨h,rfl⟩:=t1
    have: ∃arr,v= .agg arr:=by
     simp only [Value.okWide,hu] at hv
     obtain ⟨arr,rfl,_⟩:=hv
     exact ⟨arr,rfl⟩
    obtain ⟨arr,rfl⟩:=this
    refine ⟨.h h,fuel+1,?_,by unfold ME;simp only [hu];exact t2⟩
    have hr:=r1.single
    simp only [Value.cells] at hr
    generalize rR:arr.toList=vs at hr
    cases hr
    show Value.agg arr= .agg _
    rw [←rR]
end
end Dn
/-
  A law of plain data, out of its function's contract. Conditions: none.
-/
set_option linter.unusedSimpArgs false
set_option linter.unusedVariables false
namespace Dn
open Go Go.WideShapes Go.ChangeShapes Go.RowKit
section
variable {H:Type} {enc:TypeId×Value→H} {P:Program} {W W':World} {c:Ctx}
theorem s7 (hl:laidOutB P=true) (hb:Below W.heap.size W W'): ∀{ts:List TypeId} {vs:List Value} {ds:List (DataW H)} {ps:List MemPlace},(∀t∈ts,P.readableRec t=true∧t<P.types.size)→
 DataW.TrodAll enc P W 0 (fun _=>true) true ts vs ds ps→(∀x∈ps,x.block<W.heap.size)→DataW.TrodAll enc P W' 0 (fun b=>decide (b<W.heap.size)) true ts vs ds ps
 |[],[],[],_,_,h,_=>h
 |t::ts,v::vs,d::ds,_,ht,⟨p,q,h1,h2,e⟩,hs=>
  ⟨p,q,Below.trod hl (ht t (by simp)).1 (ht t (by simp)).2 h1 hb (fun x hx=>hs x (by rw [e];exact List.mem_append_left _ hx)),
   s7 hl hb (fun u hu=>ht u (by simp [hu])) h2 (fun x hx=>hs x (by rw [e];exact List.mem_append_right _ hx)),e⟩
def uS (P:Program):List TypeId→List MV→Prop
 |[],ms=>ms=[]
 |t::ts,ms=> ∃m r,ms=m::r∧(∃n,ME P (MT P n) t m)∧uS P ts r
theorem Cu {base:Nat} {sp:Nat→Bool} {held:Bool} {key:Nat→Nat} {r:Reach} {b0:Nat}: ∀{ts:List TypeId} {vs:List Value} {ds:List (DataW H)} {ps:List MemPlace},(∀t∈ts,∃D,Sz P D t=true)→
 (∀(j:Nat) t v,ts[j]? =some t→vs[j]? =some v→Value.okWide P W r b0 t v)→DataW.TrodAll enc P W base sp held ts vs ds ps→ ∃ms,bG key (wm W) vs ms∧uS P ts ms∧ds.length=ts.length
 |[],[],[],_,_,_,_=>⟨[],rfl,rfl,rfl⟩
 |t::ts,v::vs,d::ds,_,ht,hv,⟨p,q,h1,h2,e⟩=>by
  obtain ⟨D,hD⟩:=ht t (by simp)
  obtain ⟨m,n,r1,t1⟩:=N0 (key:=key) hD (hv 0 t v rfl rfl) h1
  obtain ⟨ms,r2,t2,hl⟩:=Cu (key:=key) (fun u hu=>ht u (by simp [hu])) (fun j u x hu hx=>hv (j+1) u x (by simpa using hu) (by simpa using hx)) h2
  exact ⟨m::ms,⟨v,vs,rfl,r1,r2⟩,⟨m,ms,rfl,⟨n,t1⟩,t2⟩,by simp [hl]⟩
theorem KV {fn:Func} {f:FuncId} {s:ChangeSpec} {args:Array Value} {ds gs:List (DataW H)} {before:List MemPlace} {tb:TypeId} {base:Nat} (hf:P.funcs[f]? =some fn) (my:fn.body.isSome=true) (uR:(fn.name== "runtime.NumGoroutine")=false)
 (hl:laidOutB P=true) (XB: ∀t∈fn.params.toList,(∃D,Sz P D t=true)∧P.readableRec t=true∧t<P.types.size) (oJ:fn.resultTypes= #[tb]) (NF:P.underlying tb=some .bool) (hv:s.vars=[])
 (Zv: ∀ds:List (DataW H),ds.length=fn.params.toList.length→s.fn H ds={results:=[.lit (.bool true)],args:=ds})
 (xT: ∀(j:Nat) t v,fn.params[j]? =some t→args[j]? =some v→Value.okWide P W .any base t v)
 (hW:DataW.Whole enc P fn.params.toList s.vars false W args.toList ds gs before) (hg:c.dn (c.key f)=false)
 (qp: ∀ms,uS P fn.params.toList ms→jD P c f ms (.b true)):
 Calls P f args W fun e W'=> ∃v,e= .returned v∧s.post enc P fn false true false false W args v W':=by
 have hW':=hW
 obtain ⟨p,q,hA,hV,rfl,V0,VY⟩:=hW
 rw [hv] at hV
 obtain ⟨rfl,rfl⟩:=trodVars_none hV
 have cA: ∀x∈p,x.block<W.heap.size:=fun x hx=>by simpa using hW'.lt x (by simp [hx])
 obtain ⟨ms,r1,t1,P2⟩:=Cu (key:=c.key) (fun t ht=>(XB t ht).1) (fun j t v h1 h2=>xT j t v (by simpa using h1) (by simpa using h2)) hA
 have hc:=qp ms t1 (wm W) W (fun b=>W.heap.size≤b) args.toList (fun b hb=>hb) (by simp only [dX,hg,Bool.false_eq_true,if_false];exact r1) (NX W)
 have bw:(callFunc f args).run P W= .ok (.enter f args) W:=by
  have Dz: ¬fn.name= "runtime.NumGoroutine" :=by simpa using uR
  cases hb:fn.body with
  |none=>rw [hb] at my;cases my
  |some b=>simp [callFunc,hf,Dz,hb]
 unfold eZ at hc
 rw [Array.toArray_toList,bw] at hc
 refine hc.mono ?_
 rintro x W' ⟨v,rfl,φ',ht,gK,hr⟩
 have VZ:v= .bool true:=by
  obtain ⟨_,hr⟩:=hr
  generalize rR:[v]=vs at hr
  cases hr;simpa using rR
 subst VZ
 have N1:Below W.heap.size W W':=⟨ht.rest.1,ht.rest.2.1,ht.rest.2.2.1,ht.size,fun k hk=>ht.heap k (by omega) hk⟩
 have T2:=Zv (ds++[]) (by simpa using P2)
 refine ⟨_,rfl,ds,[],_,[],p,[],hW',?_,?_,?_,N1.frame _,fun h=>by cases h⟩
 ·rw [T2,oJ]
  exact trodAll_mk1 (shut_bool NF _)
 ·rw [T2]
  simpa using s7 hl N1 (fun t ht=>(XB t ht).2) hA cA
 ·rw [T2,hv];rfl
end
theorem DS {α:Type} {f:α→MV} {Q:α→Prop} {R:MV→Prop} {xs:List MV} (h: ∀x,R x→ ∃y,x=f y∧Q y) (hx: ∀x∈xs,R x): ∃L:List α,xs=L.map f∧ ∀y∈L,Q y:=by
 induction xs with
 |nil=>exact ⟨[],rfl,by simp⟩
 |cons x xs ih=>
  obtain ⟨y,rfl,hq⟩:=h x (hx x (by simp))
  obtain ⟨L,rfl,hL⟩:=ih fun z hz=>hx z (by simp [hz])
  exact ⟨y::L,rfl,by simp only [List.mem_cons];rintro z (rfl|hz);exact hq;exact hL z hz⟩
end Dn
/-
  A program's type table, looked through. Conditions: none.
-/
set_option linter.unusedSimpArgs false
set_option linter.unusedVariables false
set_option linter.constructorNameAsVariable false
namespace Dn
open Go
theorem N2 {a b:Kd} (h:R4 a b=true):a=b:=by
 cases a<;>cases b<;>simp [R4,kB] at h<;>first|rfl|(subst h;rfl)
def fZ:List Kd→Kd→Bool
 |[k],k'=>R4 k k'
 |_,_=>false
theorem cN {l:List Kd} {k:Kd} (h:fZ l k=true):l=[k]:=by
 cases l with
 |nil=>simp [fZ] at h
 |cons a l=>cases l with
  |nil=>simp only [fZ] at h;rw [N2 h]
  |cons=>simp [fZ] at h
def xv:List Nat→List Nat→Bool
 |[],[]=>true
 |a::l,b::m=>Nat.beq a b&&xv l m
 |_,_=>false
theorem zx {l m:List Nat} (h:xv l m=true):l=m:=by
 induction l generalizing m with
 |nil=>cases m<;>simp [xv] at h;rfl
 |cons a l ih=>
  cases m with
  |nil=>simp [xv] at h
  |cons b m=>
   simp only [xv,Bool.and_eq_true] at h
   rw [Nat.eq_of_beq_eq_true h.1,ih h.2]
def pI {α:Type}:List α→Bool
 |[]=>true
 |_=>false
theorem kC {α:Type} {l:List α} (h:pI l=true):l=[]:=by cases l<;>simp [pI] at h;rfl
def DT (ti:Nat→Option TI) (t:Nat):Bool:=match ti t with|some J=>pI J.bX&&Nat.ble 1 J.size|none=>false
theorem Cv {ti:Nat→Option TI} {t:Nat} (h:DT ti t=true): ∃J,ti t=some J∧J.bX=[]∧0<J.size:=by
 unfold DT at h
 cases hJ:ti t with
 |none=>simp [hJ] at h
 |some J=>
  simp only [hJ,Bool.and_eq_true] at h
  exact ⟨J,rfl,kC h.1,Nat.le_of_ble_eq_true h.2⟩
def zy:List Value→Nat→Bool
 |[],n=>Nat.beq n 0
 | .int .u8 k::r,n+1=>decide (k=0)&&zy r n
 |_,_=>false
theorem FJ {l:List Value} {n:Nat} (h:zy l n=true):l=List.replicate n (.int .u8 0):=by
 induction l generalizing n with
 |nil=>have:=Nat.eq_of_beq_eq_true h;subst this;rfl
 |cons v l ih=>
  cases n with
  |zero=>cases v<;>simp [zy] at h
  |succ n=>
   unfold zy at h
   split at h
   ·rename_i h1;simp at h1
   ·rename_i k _ _ h1 h2
    simp only [List.cons.injEq] at h1
    obtain ⟨rfl,rfl⟩:=h1
    cases h2
    simp only [Bool.and_eq_true,decide_eq_true_eq] at h
    rw [h.1,ih h.2];rfl
   ·cases h
def wu:List av→av→Bool
 |[.nil],.nil=>true
 |[.p (.b false)],.p (.b false)=>true
 |[.p (.i k n)],.p (.i k' m)=>kB k k'&&decide (n=m)
 |[.p (.s [])],.p (.s [])=>true
 |_,_=>false
theorem rY {l:List av} {x:av} (h:wu l x=true):l=[x]:=by
 unfold wu at h
 split at h<;>first|rfl|skip
 ·simp [kB] at h;rw [h.1,h.2]
 ·cases h
def N3:List av→Bool
 |[.hs x]=>decide (x=fm.zero)
 |_=>false
theorem N4 {l:List av} (h:N3 l=true):l=[.hs fm.zero]:=by
 unfold N3 at h
 split at h
 ·rw [of_decide_eq_true h]
 ·cases h
def N5 (ti:Nat→Option TI) (P:Program) (I:TI) (z:Option Value):TypeDesc→Bool
 | .struct fs=>I.st&&pI I.bX&&Nat.ble 1 I.size&&Nat.beq (xP I.lay) I.size&&xv (fs.toList.map (·.offset)) I.EW&&xv (fs.toList.map (·.type)) I.Kf&&
  (fs.toList.all fun f=>DT ti f.type)&&(match z with|some (.agg cs)=>nj I.zero cs.toList&&Nat.beq cs.size I.size|_=>false)
 | .tuple ts=>xv I.bX ts.toList&&!pI I.bX&&pI I.lay&&!I.st
 | .slice el=>!I.st&&pI I.bX&&Nat.beq I.size 1&&Nat.beq I.elem el&&DT ti el&&(match z with|some (.slice none 0 0)=>true|_=>false)&&wu I.zero .nil&&fZ I.lay .l
 | .array n el=>!I.st&&pI I.bX&&Nat.beq I.size 32&&Nat.beq n 32&&Nat.beq I.elem el&&(match P.underlying el with|some (.int .u8)=>true|_=>false)&&(match P.info? el with|some i=>Nat.beq i.size 1|none=>false)&&
  fZ I.lay .h&&N3 I.zero&&(match z with|some (.agg cs)=>zy cs.toList 32|_=>false)
 | .bool=>!I.st&&pI I.bX&&Nat.beq I.size 1&&fZ I.lay .b&&wu I.zero (.p (.b false))&&(match z with|some (.bool false)=>true|_=>false)
 | .int k=>!I.st&&pI I.bX&&Nat.beq I.size 1&&fZ I.lay (.i k)&&wu I.zero (.p (.i k 0))&&(match z with|some (.int k' n)=>kB k' k&&decide (n=0)|_=>false)
 | .string=>!I.st&&pI I.bX&&Nat.beq I.size 1&&fZ I.lay .s&&wu I.zero (.p (.s []))&&(match z with|some (.string b)=>pI b.data.toList|_=>false)
 |_=>!I.st&&pI I.bX&&Nat.beq I.size 1&&fZ I.lay .raw&&(match z with|some v=>v.oneCell'&&nj I.zero [v]|none=>false)
theorem N6 {ti:Nat→Option TI} {P:Program} {I:TI} {z:Option Value} {d:TypeDesc} (h:N5 ti P I z d=true):mn ti P I z d:=by
 cases d<;>simp only [N5,Bool.and_eq_true,Bool.not_eq_true'] at h<;>simp only [mn]
 case struct fs=>
  obtain ⟨⟨⟨⟨⟨⟨⟨h1,h2⟩,h3⟩,h4⟩,h5⟩,h6⟩,h7⟩,h8⟩:=h
  refine ⟨h1,kC h2,⟨Nat.le_of_ble_eq_true h3,Nat.eq_of_beq_eq_true h4⟩,zx h5,zx h6,fun k f hk=> ?_,?_⟩
  ·exact Cv (List.all_eq_true.1 h7 f (by
    have:fs.toList[k]? =some f:=by simpa using hk
    exact List.mem_of_getElem? this))
  ·split at h8
   ·rename_i cs
    simp only [Bool.and_eq_true] at h8
    exact ⟨cs,rfl,h8.1,Nat.eq_of_beq_eq_true h8.2⟩
   ·cases h8
 case tuple ts=>
  obtain ⟨⟨⟨h1,h2⟩,h3⟩,h4⟩:=h
  exact ⟨zx h1,fun he=>(by rw [he] at h2;simp [pI] at h2),kC h3,h4⟩
 case slice el=>
  obtain ⟨⟨⟨⟨⟨⟨⟨h1,h2⟩,h3⟩,h4⟩,h5⟩,h6⟩,h7⟩,h8⟩:=h
  refine ⟨h1,kC h2,Nat.eq_of_beq_eq_true h3,Nat.eq_of_beq_eq_true h4,Cv h5,?_,rY h7,.l,cN h8,rfl⟩
  split at h6
  ·rfl
  ·cases h6
 case array n el=>
  obtain ⟨⟨⟨⟨⟨⟨⟨⟨⟨h1,h2⟩,h3⟩,h4⟩,h5⟩,h6⟩,h7⟩,h8⟩,h9⟩,T3⟩:=h
  refine ⟨h1,kC h2,Nat.eq_of_beq_eq_true h3,Nat.eq_of_beq_eq_true h4,Nat.eq_of_beq_eq_true h5,?_,cN h8,N4 h9,?_⟩
  ·split at h6
   ·rename_i hu
    split at h7
    ·rename_i i hi;exact ⟨i,hu,hi,Nat.eq_of_beq_eq_true h7⟩
    ·cases h7
   ·cases h6
  ·split at T3
   ·rename_i cs
    have:=FJ T3
    congr 1
    congr 1
    apply Array.toList_inj.1
    rw [this];rfl
   ·cases T3
 case bool=>
  obtain ⟨⟨⟨⟨⟨h1,h2⟩,h3⟩,h4⟩,h5⟩,h6⟩:=h
  refine ⟨h1,kC h2,Nat.eq_of_beq_eq_true h3,cN h4,rY h5,?_⟩
  split at h6
  ·rfl
  ·cases h6
 case int k=>
  obtain ⟨⟨⟨⟨⟨h1,h2⟩,h3⟩,h4⟩,h5⟩,h6⟩:=h
  refine ⟨h1,kC h2,Nat.eq_of_beq_eq_true h3,cN h4,rY h5,?_⟩
  split at h6
  ·simp only [kB,Bool.and_eq_true,decide_eq_true_eq] at h6
   rw [h6.1,h6.2]
  ·cases h6
 case string=>
  obtain ⟨⟨⟨⟨⟨h1,h2⟩,h3⟩,h4⟩,h5⟩,h6⟩:=h
  refine ⟨h1,kC h2,Nat.eq_of_beq_eq_true h3,cN h4,rY h5,?_⟩
  split at h6
  ·rename_i b;exact ⟨b,rfl,kC h6⟩
  ·cases h6
 all_goals
  obtain ⟨⟨⟨⟨h1,h2⟩,h3⟩,h4⟩,h5⟩:=h
  refine ⟨h1,kC h2,Nat.eq_of_beq_eq_true h3,cN h4,?_⟩
  split at h5
  ·rename_i v
   simp only [Bool.and_eq_true] at h5
   exact ⟨v,rfl,h5.1,h5.2⟩
  ·cases h5
def T4 (ti:Nat→Option TI) (P:Program) (t:Nat) (I:TI):Bool:=
 match P.underlying t,P.info? t with
 |some d,some i=>(!pI I.bX||(Nat.beq i.size I.size&&Nat.beq i.bytes I.bytes))&&N5 ti P I i.zero d
 |_,_=>false
theorem QM {ti:Nat→Option TI} {P:Program} {t:Nat} {I:TI} (h:T4 ti P t I=true):jV ti P t I:=by
 unfold T4 at h
 split at h
 ·rename_i d i hu hi
  simp only [Bool.and_eq_true,Bool.or_eq_true,Bool.not_eq_true'] at h
  refine ⟨d,i,hu,hi,fun hc=> ?_,N6 h.2⟩
  rcases h.1 with h1|h1
  ·rw [hc] at h1;simp [pI] at h1
  ·exact ⟨Nat.eq_of_beq_eq_true h1.1,Nat.eq_of_beq_eq_true h1.2⟩
 ·cases h
def qv:List (Nat×TI)→Nat→Option TI
 |[],_=>none
 |(k,s)::r,t=>bif Nat.beq k t then some s else qv r t
def FK (P:Program) (P3:List (Nat×TI)):Bool:=P3.all fun p=>T4 (qv P3) P p.1 p.2
theorem Cw {l:List (Nat×TI)} {t:Nat} {I:TI} (h:qv l t=some I):(t,I)∈l:=by
 induction l with
 |nil=>simp [qv] at h
 |cons p l ih=>
  obtain ⟨k,s⟩:=p
  simp only [qv,cw] at h
  by_cases hk:k=t
  ·subst hk;simp at h;subst h;simp
  ·simp only [hk,decide_false,cond_false] at h
   exact List.mem_cons_of_mem _ (ih h)
theorem DU {P:Program} {P3:List (Nat×TI)} (h:FK P P3=true):fI P (qv P3):=fun t I hI=>QM (List.all_eq_true.1 h (t,I) (Cw hI))
end Dn
/-
  Comparing values of plain types. Conditions: none.
-/
set_option linter.unusedSimpArgs false
set_option linter.unusedVariables false
set_option linter.constructorNameAsVariable false
namespace Dn
open Go
def QN:List Kd→List Kd
 |[]=>[]
 | .h::r=>List.replicate 32 (.i .u8)++QN r
 |k::r=>k::QN r
def DV:Kd→Value→Bool
 | .b,.bool _=>true
 | .i k,.int k' _=>decide (k'=k)
 | .s,.string _=>true
 |_,_=>false
def eI:List Kd→List Value→Prop
 |[],vs=>vs=[]
 |k::ks,vs=> ∃v r,vs=v::r∧DV k v=true∧eI ks r
def N7:Value→Value→Bool
 | .bool a,.bool b=>decide (a=b)
 | .int _ a,.int _ b=>decide (a=b)
 | .string a,.string b=>decide (a.data.toList=b.data.toList)
 |_,_=>false
def fN:List Value→List Value→Bool
 |[],[]=>true
 |x::xs,y::ys=>N7 x y&&fN xs ys
 |_,_=>false
theorem nB {xs ys us vs:List Value} (h:xs.length=ys.length):fN (xs++us) (ys++vs)=(fN xs ys&&fN us vs):=by
 induction xs generalizing ys with
 |nil=>cases ys with|nil=>simp [fN]|cons=>simp at h
 |cons x xs ih=>cases ys with|nil=>simp at h|cons y ys=>simp only [List.cons_append,fN,ih (by simpa using h),Bool.and_assoc]
theorem eI.length {ks:List Kd}: ∀{vs:List Value},eI ks vs→vs.length=ks.length:=by
 induction ks with
 |nil=>intro vs h;cases h;rfl
 |cons k ks ih=>intro vs h;obtain ⟨v,r,rfl,_,h2⟩:=h;simp [ih h2]
theorem eI.append {ks js:List Kd}: ∀{vs us:List Value},eI ks vs→eI js us→eI (ks++js) (vs++us):=by
 induction ks with
 |nil=>intro vs us h h';cases h;simpa using h'
 |cons k ks ih=>intro vs us h h';obtain ⟨v,r,rfl,h1,h2⟩:=h;exact ⟨v,r++us,rfl,h1,ih h2 h'⟩
theorem eI.split {ks js:List Kd}: ∀{vs:List Value},eI (ks++js) vs→eI ks (vs.take ks.length)∧eI js (vs.drop ks.length):=by
 induction ks with
 |nil=>intro vs h;exact ⟨by simp [eI],by simpa using h⟩
 |cons k ks ih=>
  intro vs h
  obtain ⟨v,r,rfl,h1,h2⟩:=h
  obtain ⟨h3,h4⟩:=ih h2
  exact ⟨⟨v,_,rfl,h1,h3⟩,by simpa using h4⟩
theorem zB (x:fm):eI (List.replicate 32 (.i .u8)) (aT x):=by
 have: ∀(l:List UInt8),eI (List.replicate l.length (.i .u8)) (l.map fun b=>Value.int .u8 (b.toNat:Int)):=by
  intro l
  induction l with
  |nil=>rfl
  |cons b l ih=>exact ⟨_,_,rfl,by simp [DV],ih⟩
 have h:=this x.l
 rw [x.h] at h
 exact h
theorem Cx (x y:fm):fN (aT x) (aT y)=decide (x=y):=by
 have: ∀(l m:List UInt8),l.length=m.length→fN (l.map fun b=>Value.int .u8 (b.toNat:Int)) (m.map fun b=>Value.int .u8 (b.toNat:Int))=decide (l=m):=by
  intro l
  induction l with
  |nil=>intro m h;cases m with|nil=>rfl|cons=>simp at h
  |cons b l ih=>
   intro m h
   cases m with
   |nil=>simp at h
   |cons b' m=>
    simp only [List.map_cons,fN,N7,ih m (by simpa using h),List.cons.injEq]
    have:((b.toNat:Int)=(b'.toNat:Int))↔b=b':=by
     constructor
     ·intro he;apply UInt8.toNat_inj.1;omega
     ·intro he;rw [he]
    simp [this]
 rw [aT,aT,this x.l y.l (by rw [x.h,y.h])]
 by_cases h:x=y
 ·subst h;simp
 ·have:x.l≠y.l:=fun he=>h (fm.ext' he)
  simp [h,this]
section
variable {e:Env}
theorem Cy {lay:List Kd}: ∀{ls:List av} {vs:List Value},ap e vs ls→cZ lay ls=true→eI (QN lay) vs:=by
 induction lay with
 |nil=>
  intro ls vs h hf
  cases ls with
  |nil=>cases h;rfl
  |cons=>simp [cZ] at hf
 |cons k lay ih=>
  intro ls vs h hf
  cases ls with
  |nil=>simp [cZ] at hf
  |cons l ls=>
   simp only [cZ] at hf
   cases h1:iU k l with
   |false=>simp [h1] at hf
   |true=>
    simp only [h1,cond_true] at hf
    obtain ⟨v,u,rfl,g1,g2⟩:=h
    have hr:=ih g2 hf
    have one: ∀m:MV,∀kd:Kd,l= .p m→(∀w:List Value,gE e.key e.φ w m→ ∃x,w=[x]∧DV kd x=true)→eI (kd::QN lay) (v++u):=by
     intro m kd hl hm
     subst hl
     obtain ⟨x,rfl,hx⟩:=hm v g1.2
     exact ⟨x,u,rfl,hx,hr⟩
    cases k<;>cases l<;>simp only [iU] at h1<;>try (cases h1;done)
    ·rename_i m
     cases m<;>simp only [iU] at h1<;>try (cases h1;done)
     exact one _ _ rfl (fun w hw=>by cases hw;exact ⟨_,rfl,rfl⟩)
    ·rename_i k m
     cases m<;>simp only [iU] at h1<;>try (cases h1;done)
     exact one _ _ rfl (fun w hw=>by cases hw;exact ⟨_,rfl,h1⟩)
    ·rename_i m
     cases m<;>simp only [iU] at h1<;>try (cases h1;done)
     exact one _ _ rfl (fun w hw=>by cases hw;exact ⟨_,rfl,rfl⟩)
    ·rename_i x
     have g1:v=aT x:=g1
     subst g1
     exact (zB x).append hr
theorem Bn {l l':av} {v v':List Value} {b:Bool} (h:aG e v l) (h':aG e v' l') (hb:vX l l'=some b):fN v v'=b∧v.length=v'.length:=by
 unfold vX at hb
 split at hb
 ·obtain ⟨_,h⟩:=h;obtain ⟨_,h'⟩:=h'
  cases h;cases h'
  simp at hb;exact ⟨by simp [fN,N7,←hb],rfl⟩
 ·obtain ⟨_,h⟩:=h;obtain ⟨_,h'⟩:=h'
  cases h;cases h'
  rename_i k x k' y _ _
  cases hk:decide (k=k') with
  |false=>simp [hk] at hb
  |true=>simp [hk] at hb;exact ⟨by simp [fN,N7,←hb],rfl⟩
 ·obtain ⟨_,h⟩:=h;obtain ⟨_,h'⟩:=h'
  cases h;cases h'
  simp at hb;exact ⟨by simp [fN,N7,←hb],rfl⟩
 ·rename_i x y
  have h:v=aT x:=h
  have h':v'=aT y:=h'
  subst h;subst h'
  simp at hb
  exact ⟨by rw [Cx,←hb],by rw [bZ,bZ]⟩
 ·cases hb
theorem N8 {ls:List av}: ∀{qu:List av} {vs GW:List Value} {b:Bool},ap e vs ls→ap e GW qu→eE ls qu=some b→fN vs GW=b:=by
 induction ls with
 |nil=>
  intro qu vs GW b h h' hb
  cases qu with
  |nil=>cases h;cases h';simp [eE] at hb;subst hb;rfl
  |cons l' qu=>simp [eE] at hb
 |cons l ls ih=>
  intro qu vs GW b h h' hb
  cases qu with
  |nil=>simp [eE] at hb
  |cons l' qu=>
   obtain ⟨v,u,rfl,h1,h2⟩:=h
   obtain ⟨v',u',rfl,Ba,Fg⟩:=h'
   have two: ∀x y,vX l l'=some x→eE ls qu=some y→b=(x&&y)→fN (v++u) (v'++u')=b:=by
    intro x y hx hy Mc
    obtain ⟨g1,g2⟩:=Bn h1 Ba hx
    rw [nB g2,g1,ih h2 Fg hy,Mc]
   cases ls with
   |nil=>
    cases qu with
    |nil=>
     have hb:vX l l'=some b:=hb
     exact two b true hb rfl (by simp)
    |cons p q=>
     simp only [eE] at hb
     split at hb
     ·rename_i x y hx hy;exact two x y hx hy (by simpa using hb.symm)
     ·cases hb
   |cons p q=>
    simp only [eE] at hb
    split at hb
    ·rename_i x y hx hy;exact two x y hx hy (by simpa using hb.symm)
    ·cases hb
end
def n3 (F:TypeId→Option (List Kd)) (P:Program):List Field→Nat→Nat→Option (List Kd)
 |[],o,n=>bif Nat.beq o n then some [] else none
 |f::fs,o,n=>match F f.type with
  |some ks=>bif Nat.beq f.offset o&&Nat.beq ks.length (P.cellsOf f.type)&&!(f.name== "_") then (match n3 F P fs (o+ks.length) n with|some r=>some (ks++r)|none=>none) else none
  |none=>none
def FM:Nat→List Kd→List Kd
 |0,_=>[]
 |n+1,ks=>ks++FM n ks
def iP (P:Program):Nat→TypeId→Option (List Kd)
 |0,_=>none
 |d+1,t=>match P.underlying t with
  |some .bool=>some [.b]
  |some (.int k)=>some [.i k]
  |some .string=>some [.s]
  |some (.array n e)=>match iP P d e with
   |some ks=>bif Nat.beq ks.length (P.cellsOf e)&&(match P.info? e with|some _=>true|none=>false) then some (FM n ks) else none
   |none=>none
  |some (.struct fs)=>bif P.stoodInHeld t then none else n3 (iP P d) P fs.toList 0 (P.cellsOf t)
  |_=>none
def Bo:TypeDesc→Bool
 | .struct _=>true
 | .array _ _=>true
 |_=>false
theorem zC {F:TypeId→Option (List Kd)} {P:Program}: ∀(fs:List Field) (o n:Nat) (ks:List Kd),n3 F P fs o n=some ks→o+ks.length=n:=by
 intro fs
 induction fs with
 |nil=>
  intro o n ks hk
  simp only [n3] at hk
  cases hb:Nat.beq o n with
  |false=>simp [hb] at hk
  |true=>simp [hb] at hk;subst hk;simpa using Nat.eq_of_beq_eq_true hb
 |cons f fs ihf=>
  intro o n ks hk
  simp only [n3] at hk
  cases hf:F f.type with
  |none=>simp [hf] at hk
  |some js=>
   simp only [hf] at hk
   cases hc:Nat.beq f.offset o&&Nat.beq js.length (P.cellsOf f.type)&&!(f.name== "_") with
   |false=>simp [hc] at hk
   |true=>
    simp only [hc,cond_true] at hk
    cases hr:n3 F P fs (o+js.length) n with
    |none=>simp [hr] at hk
    |some rs=>
     simp only [hr,Option.some.injEq] at hk
     subst hk
     have:=ihf _ _ _ hr
     simp only [List.length_append];omega
def na (P:Program) (t:TypeId) (v:Value) (cs:List Value):Prop:=
 match P.underlying t with
 |some (.struct _)|some (.array _ _)=>v= .agg cs.toArray
 |_=>cs=[v]
theorem FN (n:Nat) (ks:List Kd):(FM n ks).length=n *ks.length:=by
 induction n with
 |zero=>simp [FM]
 |succ n ih=>simp only [FM,List.length_append,ih,Nat.succ_mul];omega
section
variable {P:Program} {w:World}
theorem rZ {t:TypeId} {xs:Array Value} {off:Nat} {n:Nat} {d:TypeDesc} (hu:P.underlying t=some d) (hn:P.cellsOf t=n) (fJ:Bo d=false→n=1) (hl:off+n≤xs.size):
 ∃v,(Go.part t xs off).run P w= .ok v w∧na P t v ((xs.toList.drop off).take n):=by
 obtain ⟨i,hi⟩:=info_of_underlying hu
 have lh:i.size=n:=by rw [←hn];simp [Program.cellsOf,hi]
 cases hd:Bo d with
 |true=>
  refine ⟨.agg (xs.extract off (off+n)),?_,?_⟩
  ·cases d<;>simp [Bo] at hd<;>simp [Go.part,isAgg,run_underlying hu,Go.sizeOf,typeInfo,hi,lh]
  ·have he:(xs.extract off (off+n))=((xs.toList.drop off).take n).toArray:=by
    apply Array.toList_inj.1
    rw [Array.toList_extract];simp [List.extract]
   unfold na
   cases d<;>simp [Bo] at hd<;>simp only [hu]<;>rw [he]
 |false=>
  have EN:=fJ hd
  subst EN
  have cA:off<xs.size:=by omega
  refine ⟨xs[off],?_,?_⟩
  ·cases d<;>simp [Bo] at hd<;>simp [Go.part,isAgg,run_underlying hu,cA]
  ·have he:(xs.toList.drop off).take 1=[xs[off]]:=by
    rw [List.take_one,List.head?_drop];simp [cA]
   unfold na
   cases d<;>simp [Bo] at hd<;>simp only [hu]<;>exact he
theorem KW {F:TypeId→Option (List Kd)} {dd:Nat} {xs ys:Array Value}: ∀(fs:List Field) (o n:Nat) (ks:List Kd),n3 F P fs o n=some ks→xs.size=n→ys.size=n→eI ks (xs.toList.drop o)→eI ks (ys.toList.drop o)→
 (∀f∈fs,∀js,F f.type=some js→(∃d,P.underlying f.type=some d∧(Bo d=false→js.length=1))∧
  ∀(x y:Value) (us vs:List Value),na P f.type x us→na P f.type y vs→eI js us→eI js vs→(Op.equalIn dd f.type x y).run P w= .ok (fN us vs) w)→
 (Op.eqFields dd xs ys fs).run P w= .ok (fN (xs.toList.drop o) (ys.toList.drop o)) w:=by
 intro fs
 induction fs with
 |nil=>
  intro o n ks hk hx hy _ _ _
  simp only [n3] at hk
  cases hb:Nat.beq o n with
  |false=>simp [hb] at hk
  |true=>
   have hb:=Nat.eq_of_beq_eq_true hb
   have h1:xs.toList.drop o=[]:=List.drop_eq_nil_of_le (by simp [hx,hb])
   have h2:ys.toList.drop o=[]:=List.drop_eq_nil_of_le (by simp [hy,hb])
   rw [h1,h2]
   simp [Op.eqFields,fN]
 |cons f fs ih=>
  intro o n ks hk hx hy fx fy hF
  simp only [n3] at hk
  cases hf:F f.type with
  |none=>simp [hf] at hk
  |some js=>
   simp only [hf] at hk
   cases hc:Nat.beq f.offset o&&Nat.beq js.length (P.cellsOf f.type)&&!(f.name== "_") with
   |false=>simp [hc] at hk
   |true=>
    simp only [hc,cond_true] at hk
    simp only [Bool.and_eq_true,Bool.not_eq_true'] at hc
    obtain ⟨⟨h1,h2⟩,h3⟩:=hc
    have h1:=Nat.eq_of_beq_eq_true h1
    have h2:=Nat.eq_of_beq_eq_true h2
    have h3:f.name≠ "_" :=by intro he;rw [he] at h3;simp at h3
    cases hr:n3 F P fs (o+js.length) n with
    |none=>simp [hr] at hk
    |some rs=>
     simp only [hr,Option.some.injEq] at hk
     subst hk
     obtain ⟨XC,XD⟩:=fx.split
     obtain ⟨XE,XF⟩:=fy.split
     rw [List.drop_drop] at XD XF
     have lx:=fx.length
     have ly:=fy.length
     simp only [List.length_drop,List.length_append,Array.length_toList] at lx ly
     obtain ⟨⟨d,hu,fJ⟩,dJ⟩:=hF f (by simp) js hf
     by_cases hz:o+js.length≤xs.size∧o+js.length≤ys.size
     ·obtain ⟨x,px,wx⟩:=rZ (w:=w) (xs:=xs) (off:=f.offset) hu h2.symm fJ (by rw [h1];exact hz.1)
      obtain ⟨y,py,wy⟩:=rZ (w:=w) (xs:=ys) (off:=f.offset) hu h2.symm fJ (by rw [h1];exact hz.2)
      rw [h1] at wx wy
      have he:=dJ x y _ _ wx wy XC XE
      have s8:=ih (o+js.length) n rs hr hx hy XD XF (fun g hg=>hF g (by simp [hg]))
      simp only [Op.eqFields,h3,ne_eq,not_false_eq_true,if_true,Sem.run_bind,px,py,he,Result.andThen_ok]
      have tL:fN (xs.toList.drop o) (ys.toList.drop o)=(fN ((xs.toList.drop o).take js.length) ((ys.toList.drop o).take js.length)&&fN (xs.toList.drop (o+js.length)) (ys.toList.drop (o+js.length))):=by
       rw [←List.drop_drop,←List.drop_drop,←nB (by rw [XC.length,XE.length]),List.take_append_drop,List.take_append_drop]
      rw [tL]
      cases fN ((xs.toList.drop o).take js.length) ((ys.toList.drop o).take js.length)
      ·simp
      ·simpa using s8
     ·exfalso
      have:=zC _ _ _ _ hr
      omega
theorem N9 {e:TypeId} {dd:Nat} {xs ys:Array Value} {js:List Kd} (Bb:js.length=P.cellsOf e) (hd: ∃d,P.underlying e=some d∧(Bo d=false→js.length=1))
 (dJ: ∀(x y:Value) (us vs:List Value),na P e x us→na P e y vs→eI js us→eI js vs→(Op.equalIn dd e x y).run P w= .ok (fN us vs) w):
 ∀(m i:Nat),xs.size=(i+m) *js.length→ys.size=(i+m) *js.length→eI (FM m js) (xs.toList.drop (i *js.length))→eI (FM m js) (ys.toList.drop (i *js.length))→
 (Op.eqItems dd e (P.cellsOf e) xs ys (List.range' i m)).run P w= .ok (fN (xs.toList.drop (i *js.length)) (ys.toList.drop (i *js.length))) w:=by
 intro m
 induction m with
 |zero=>
  intro i hx hy _ _
  have h1:xs.toList.drop (i *js.length)=[]:=List.drop_eq_nil_of_le (by simp [hx])
  have h2:ys.toList.drop (i *js.length)=[]:=List.drop_eq_nil_of_le (by simp [hy])
  rw [h1,h2]
  simp [Op.eqItems,fN]
 |succ m ih=>
  intro i hx hy fx fy
  simp only [FM] at fx fy
  obtain ⟨XC,XD⟩:=fx.split
  obtain ⟨XE,XF⟩:=fy.split
  have hmul:i *js.length+js.length=(i+1) *js.length:=by rw [Nat.succ_mul]
  rw [List.drop_drop,hmul] at XD XF
  obtain ⟨d,hu,fJ⟩:=hd
  have hle:(i+1) *js.length≤(i+(m+1)) *js.length:=Nat.mul_le_mul_right _ (by omega)
  obtain ⟨x,px,wx⟩:=rZ (w:=w) (xs:=xs) (off:=i *js.length) hu Bb.symm fJ (by omega)
  obtain ⟨y,py,wy⟩:=rZ (w:=w) (xs:=ys) (off:=i *js.length) hu Bb.symm fJ (by omega)
  have he:=dJ x y _ _ wx wy XC XE
  have s8:=ih (i+1) (by rw [hx];congr 1;omega) (by rw [hy];congr 1;omega) XD XF
  rw [List.range'_succ]
  simp only [Op.eqItems,Sem.run_bind,←Bb,px,py,he,Result.andThen_ok]
  have tL:fN (xs.toList.drop (i *js.length)) (ys.toList.drop (i *js.length))=(fN ((xs.toList.drop (i *js.length)).take js.length) ((ys.toList.drop (i *js.length)).take js.length)&&fN (xs.toList.drop ((i+1) *js.length)) (ys.toList.drop ((i+1) *js.length))):=by
   rw [←hmul,←List.drop_drop,←List.drop_drop,←nB (by rw [XC.length,XE.length]),List.take_append_drop,List.take_append_drop]
  rw [tL]
  cases fN ((xs.toList.drop (i *js.length)).take js.length) ((ys.toList.drop (i *js.length)).take js.length)
  ·simp
  ·rw [←Bb] at s8;simpa using s8
theorem Cz: ∀(d:Nat) (t:TypeId) (ks:List Kd),iP P d t=some ks→ ∃k,P.underlying t=some k∧(Bo k=false→ks.length=1):=by
 intro d t ks h
 cases d with
 |zero=>simp [iP] at h
 |succ d=>
  simp only [iP] at h
  cases hu:P.underlying t with
  |none=>simp [hu] at h
  |some k=>
   refine ⟨k,rfl,fun ha=> ?_⟩
   cases k<;>simp only [hu] at h<;>first
    |(simp only [Option.some.injEq] at h;subst h;rfl)
    |(cases h;done)
    |(simp [Bo] at ha;done)
theorem xw: ∀(d:Nat) (t:TypeId) (ks:List Kd),iP P d t=some ks→ ∀(m:Nat) (x y:Value) (us vs:List Value),na P t x us→na P t y vs→eI ks us→eI ks vs→
 (Op.equalIn (m+d) t x y).run P w= .ok (fN us vs) w:=by
 intro d
 induction d with
 |zero=>intro t ks h;simp [iP] at h
 |succ d ih=>
  intro t ks h m x y us vs hx hy fx fy
  simp only [iP] at h
  have hmd:m+(d+1)=(m+d)+1:=rfl
  rw [hmd]
  cases hu:P.underlying t with
  |none=>simp [hu] at h
  |some k=>
   cases k<;>simp only [hu] at h<;>try (cases h;done)
   case bool=>
    simp only [Option.some.injEq] at h;subst h
    simp only [na,hu] at hx hy
    subst hx;subst hy
    obtain ⟨v,r,h1,h2,h3⟩:=fx
    obtain ⟨v',r',Ba,Fg,Zl⟩:=fy
    simp at h1 Ba
    obtain ⟨rfl,_⟩:=h1
    obtain ⟨rfl,_⟩:=Ba
    cases x<;>simp [DV] at h2
    cases y<;>simp [DV] at Fg
    rename_i a b
    rw [run_equalIn_bool' w _ t a b hu]
    simp [fN,N7]
    cases a<;>cases b<;>rfl
   case int k=>
    simp only [Option.some.injEq] at h;subst h
    simp only [na,hu] at hx hy
    subst hx;subst hy
    obtain ⟨v,r,h1,h2,h3⟩:=fx
    obtain ⟨v',r',Ba,Fg,Zl⟩:=fy
    simp at h1 Ba
    obtain ⟨rfl,_⟩:=h1
    obtain ⟨rfl,_⟩:=Ba
    cases x<;>simp [DV] at h2
    cases y<;>simp [DV] at Fg
    subst h2;subst Fg
    rw [run_equalIn_int w _ t _ _ _ _ hu]
    simp only [fN,N7,Bool.and_true]
    congr 1
   case string=>
    simp only [Option.some.injEq] at h;subst h
    simp only [na,hu] at hx hy
    subst hx;subst hy
    obtain ⟨v,r,h1,h2,h3⟩:=fx
    obtain ⟨v',r',Ba,Fg,Zl⟩:=fy
    simp at h1 Ba
    obtain ⟨rfl,_⟩:=h1
    obtain ⟨rfl,_⟩:=Ba
    cases x<;>simp [DV] at h2
    cases y<;>simp [DV] at Fg
    rw [run_equalIn_string w _ t _ _ hu]
    simp only [fN,N7,Bool.and_true,toList_data]
    congr 1
    exact Bool.beq_eq_decide_eq _ _
   case array n e=>
    cases ZD:iP P d e with
    |none=>simp [ZD] at h
    |some js=>
     simp only [ZD] at h
     cases hc:Nat.beq js.length (P.cellsOf e)&&(match P.info? e with|some _=>true|none=>false) with
     |false=>simp [hc] at h
     |true=>
      simp only [hc,cond_true,Option.some.injEq] at h
      subst h
      simp only [Bool.and_eq_true] at hc
      have Bb:=Nat.eq_of_beq_eq_true hc.1
      obtain ⟨i,hi⟩: ∃i,P.info? e=some i:=by
       cases hi:P.info? e with
       |none=>rw [hi] at hc;simp at hc
       |some i=>exact ⟨i,rfl⟩
      simp only [na,hu] at hx hy
      subst hx;subst hy
      rw [run_equalIn_array w (m+d) us.toArray vs.toArray hu hi,List.range_eq_range']
      have l1:=fx.length
      have l2:=fy.length
      rw [FN] at l1 l2
      have:=N9 (w:=w) (xs:=us.toArray) (ys:=vs.toArray) (js:=js) (dd:=m+d) Bb (Cz d e js ZD) (fun x y us vs a b c d'=>ih e js ZD m x y us vs a b c d') n 0 (by simpa using l1) (by simpa using l2) (by simpa using fx) (by simpa using fy)
      simpa using this
   case struct fs=>
    cases c8:P.stoodInHeld t with
    |true=>simp [c8] at h
    |false=>
     simp only [c8,cond_false] at h
     simp only [na,hu] at hx hy
     subst hx;subst hy
     have NL:P.fieldsOf t=fs:=by simp [Program.fieldsOf,hu]
     rw [run_equalIn_struct w (m+d) t us.toArray vs.toArray (by rw [NL];exact hu) c8,NL]
     have hl:=zC _ _ _ _ h
     have:=KW (w:=w) (dd:=m+d) (xs:=us.toArray) (ys:=vs.toArray) fs.toList 0 (P.cellsOf t) ks h (by simp [fx.length];omega) (by simp [fy.length];omega) (by simpa using fx) (by simpa using fy)
      (fun f hf js hjs=>⟨Cz d f.type js hjs,fun x y us vs a b c d'=>ih f.type js hjs m x y us vs a b c d'⟩)
     simpa using this
end
theorem JA {l m:List Kd} (h:uv l m=true):l=m:=by
 induction l generalizing m with
 |nil=>cases m<;>simp [uv] at h;rfl
 |cons a l ih=>
  cases m with
  |nil=>simp [uv] at h
  |cons b m=>
   simp only [uv,Bool.and_eq_true] at h
   rw [N2 h.1,ih h.2]
def HT:List Kd→Bool
 |[]=>true
 | .l::_=>false
 | .raw::_=>false
 |_::r=>HT r
def eqB (P:Program) (t:Nat) (I:TI):Bool:=
 !HT I.lay||!pI I.bX||((match iP P 20 t with|some ks=>uv ks (QN I.lay)|none=>false)&&!P.eqGuardType P.depth t&&
  (match P.underlying t with|some (.struct _)=>I.st|some (.array _ _)=>!I.st&&fZ I.lay .h|some .bool=>!I.st&&fZ I.lay .b|some (.int k)=>!I.st&&fZ I.lay (.i k)|some .string=>!I.st&&fZ I.lay .s|_=>false))
def T5 (P:Program) (P3:List (Nat×TI)):Bool:=P3.all fun p=>eqB P p.1 p.2
theorem KX {lay:List Kd}: ∀{ls:List av},cZ lay ls=true→HT lay=true:=by
 induction lay with
 |nil=>intro ls _;rfl
 |cons k lay ih=>
  intro ls h
  cases ls with
  |nil=>simp [cZ] at h
  |cons l ls=>
   simp only [cZ] at h
   cases h1:iU k l with
   |false=>simp [h1] at h
   |true=>
    simp only [h1,cond_true] at h
    have:=ih h
    cases k<;>first|exact this|(cases l<;>simp [iU] at h1)
theorem KY {t:TypeId} {x y:Value} (h:(∃b,x= .bool b)∨ ∃cs,x= .agg cs) (op:BinOp):
 (op= .eql→binOp op t x y=(do pure (.bool (←Op.equal t x y))))∧(op= .neq→binOp op t x y=(do pure (.bool (!(←Op.equal t x y))))):=by
 rcases h with ⟨b,rfl⟩|⟨cs,rfl⟩<;>refine ⟨?_,?_⟩<;>rintro rfl<;>cases y<;>rfl
theorem KZ {P:Program} {P3:List (Nat×TI)} (h:T5 P P3=true):Dy P (qv P3):=by
 intro t I hI hc e w vx vy sx sy b rx ry fx fy T6 T7 hb n1 n2
 have hr:=List.all_eq_true.1 h (t,I) (Cw hI)
 simp only [eqB,KX fx,Bool.not_true,Bool.false_or] at hr
 rw [hc] at hr
 simp only [pI,Bool.not_true,Bool.false_or,Bool.and_eq_true,Bool.not_eq_true'] at hr
 obtain ⟨⟨hk,hg⟩,hd⟩:=hr
 cases G0:iP P 20 t with
 |none=>simp [G0] at hk
 |some ks=>
  simp only [G0] at hk
  have hk:=JA hk
  subst hk
  have cells: ∀(v:Value) (s:Slot),af e v s→cZ I.lay (aA s)=true→ik I.st s=true→(∃us,na P t v us∧ap e us (aA s))∧((∃b,v= .bool b)∨(∃cs,v= .agg cs)∨(∃k n,s= .sc (.p (.i k n)))∨ ∃l,s= .sc (.p (.s l))):=by
   intro v s hv hf hs
   cases s<;>simp only [ik] at hs<;>try (cases hs;done)
   ·rename_i l
    have c8:I.st=false:=by simpa using hs
    cases hu:P.underlying t with
    |none=>simp [hu] at hd
    |some d=>
     simp only [hu] at hd
     cases d<;>simp only [c8,Bool.not_false,Bool.true_and] at hd<;>try (cases hd;done)
     ·have hl:=cN hd
      rw [hl] at hf
      simp only [aA,cZ] at hf
      cases l<;>simp [iU] at hf
      rename_i m
      cases m<;>simp [iU] at hf
      have:=qQ hv
      exact ⟨⟨[v],by simp [na,hu],[v],[],rfl,hv,rfl⟩,.inl ⟨_,this⟩⟩
     ·have hl:=cN hd
      rw [hl] at hf
      simp only [aA,cZ] at hf
      cases l<;>simp [iU] at hf
      rename_i m
      cases m<;>simp [iU] at hf
      exact ⟨⟨[v],by simp [na,hu],[v],[],rfl,hv,rfl⟩,.inr (.inr (.inl ⟨_,_,rfl⟩))⟩
     ·have hl:=cN hd
      rw [hl] at hf
      simp only [aA,cZ] at hf
      cases l<;>simp [iU] at hf
      rename_i m
      cases m<;>simp [iU] at hf
      exact ⟨⟨[v],by simp [na,hu],[v],[],rfl,hv,rfl⟩,.inr (.inr (.inr ⟨_,rfl⟩))⟩
     ·have hl:=cN hd
      rw [hl] at hf
      simp only [aA,cZ] at hf
      cases l<;>simp [iU] at hf
      rename_i x
      have hv:v= .agg (aT x).toArray:=hv
      exact ⟨⟨aT x,by simp [na,hu,hv],aT x,[],by simp,rfl,rfl⟩,.inr (.inl ⟨_,hv⟩)⟩
   ·rename_i cs
    cases hu:P.underlying t with
    |none=>simp [hu] at hd
    |some d=>
     simp only [hu] at hd
     cases d<;>simp only [hs,Bool.not_true,Bool.false_and] at hd<;>try (cases hd;done)
     obtain ⟨arr,hv,lg⟩:=hv
     exact ⟨⟨arr.toList,by simp [na,hu,hv],lg⟩,.inr (.inl ⟨_,hv⟩)⟩
  obtain ⟨⟨us,wx,lx⟩,kx⟩:=cells vx sx rx fx T6
  obtain ⟨⟨vs,wy,ly⟩,ky⟩:=cells vy sy ry fy T7
  have dJ:(Op.equal t vx vy).run P w= .ok b w:=by
   have:=xw (P:=P) (w:=w) 20 t _ G0 9980 vx vy us vs wx wy (Cy lx fx) (Cy ly fy)
   rw [N8 lx ly hb] at this
   exact this
  refine ⟨dJ,fun x y op=> ?_⟩
  have Wa:(∃b,vx= .bool b)∨ ∃cs,vx= .agg cs:=by
   rcases kx with h1|h1|⟨k,n,h1⟩|⟨l,h1⟩
   ·exact .inl h1
   ·exact .inr h1
   ·exfalso
    subst h1
    cases hu:P.underlying t with
    |none=>simp [hu] at hd
    |some d=>
     simp only [aA] at fx fy hb
     cases Oa:I.lay with
     |nil=>rw [Oa] at fx;simp [cZ] at fx
     |cons k0 r0=>
      rw [Oa] at fx fy
      simp only [cZ] at fx
      cases k0<;>simp [iU] at fx
      obtain ⟨Wb,Mg⟩:=fx
      have Mg:r0=[]:=by cases r0<;>simp [cZ] at Mg;rfl
      subst Mg
      cases sy<;>simp only [ik] at T6 T7<;>try (cases T7;done)
      ·rename_i l
       simp only [aA,cZ] at fy
       cases l<;>simp [iU] at fy
       rename_i m
       cases m<;>simp [iU] at fy
       exact n1 _ _ _ _ rfl rfl
      ·rw [T7] at T6;cases T6
   ·exfalso
    subst h1
    simp only [aA] at fx fy hb
    cases Oa:I.lay with
    |nil=>rw [Oa] at fx;simp [cZ] at fx
    |cons k0 r0=>
     rw [Oa] at fx fy
     simp only [cZ] at fx
     cases k0<;>simp [iU] at fx
     have Mg:r0=[]:=by cases r0<;>simp [cZ] at fx;rfl
     subst Mg
     cases sy<;>simp only [ik] at T6 T7<;>try (cases T7;done)
     ·rename_i l
      simp only [aA,cZ] at fy
      cases l<;>simp [iU] at fy
      rename_i m
      cases m<;>simp [iU] at fy
      exact n2 _ _ rfl rfl
     ·rw [T7] at T6;cases T6
  refine ⟨?_,KY Wa op⟩
  have Tj:P.eqGuardType P.depth t=false:=hg
  rcases Wa with ⟨bb,rfl⟩|⟨cs,rfl⟩
  ·cases op<;>rfl
  ·cases vy<;>cases op<;>first|rfl|(simp [eqGuard,Tj])
end Dn
/-
  A program's types of maps, looked through. Conditions: none.
-/
set_option linter.unusedSimpArgs false
set_option linter.unusedVariables false
set_option linter.constructorNameAsVariable false
namespace Dn
open Go
theorem DW {lay:List Kd}: ∀{ks:List MV},cf lay ks=true→eI (QN lay) (ks.flatMap vT):=by
 induction lay with
 |nil=>intro ks h;cases ks with|nil=>rfl|cons=>simp [cf] at h
 |cons k lay ih=>
  intro ks h
  cases ks with
  |nil=>simp [cf] at h
  |cons m ks=>
   simp only [cf,Bool.and_eq_true] at h
   have h2:=ih h.2
   have h1:=h.1
   cases k<;>cases m<;>simp only [wc] at h1<;>try (cases h1;done)
   ·exact ⟨_,_,rfl,rfl,h2⟩
   ·exact ⟨_,_,rfl,h1,h2⟩
   ·exact ⟨_,_,rfl,rfl,h2⟩
   ·exact (zB _).append h2
theorem QO {lay:List Kd}: ∀{a b:List MV},cf lay a=true→cf lay b=true→fN (a.flatMap vT) (b.flatMap vT)=cH b a:=by
 induction lay with
 |nil=>
  intro a b ha hb
  cases a<;>cases b<;>simp [cf] at ha hb
  rfl
 |cons k lay ih=>
  intro a b ha hb
  cases a with
  |nil=>simp [cf] at ha
  |cons x a=>
   cases b with
   |nil=>simp [cf] at hb
   |cons y b=>
    simp only [cf,Bool.and_eq_true] at ha hb
    have ih:=ih ha.2 hb.2
    have h1:=ha.1
    have h2:=hb.1
    cases k<;>cases x<;>simp only [wc] at h1<;>try (cases h1;done)
    all_goals cases y<;>simp only [wc] at h2<;>try (cases h2;done)
    ·rename_i p q
     simp only [List.flatMap_cons,vT,List.cons_append,List.nil_append,fN,N7,cH,vZ,ih]
     congr 1;rw [decide_eq_decide];exact eq_comm
    ·rename_i k1 p k2 q
     have e1:=of_decide_eq_true h1
     have e2:=of_decide_eq_true h2
     subst e1;subst e2
     simp only [List.flatMap_cons,vT,List.cons_append,List.nil_append,fN,N7,cH,vZ,ih,decide_true,Bool.true_and]
     congr 1;rw [decide_eq_decide];exact eq_comm
    ·rename_i p q
     simp only [List.flatMap_cons,vT,List.cons_append,List.nil_append,fN,N7,cH,vZ,ih]
     congr 1;rw [decide_eq_decide];simp [eq_comm]
    ·rename_i p q
     simp only [List.flatMap_cons,vT,cH,vZ]
     rw [nB (by rw [bZ,bZ]),Cx,ih]
     congr 1;rw [decide_eq_decide];exact eq_comm
def wv:TypeDesc→Bool
 | .bool| .int _| .string=>true
 |_=>false
def XG (P:Program) (n:Nat) (fs:List Field):Bool:=fs.all fun f=>(match P.underlying f.type with|some d=>wv d|none=>false)&&Nat.ble (f.offset+1) n
def SB (P:Program) (kt:Nat) (I:TI):Bool:=match P.underlying kt with
 |some .bool=>!I.st&&fZ I.lay .b
 |some (.int k)=>!I.st&&fZ I.lay (.i k)
 |some .string=>!I.st&&fZ I.lay .s
 |some (.struct fs)=>I.st&&(match iP P 20 kt with|some ks=>uv ks (QN I.lay)|none=>false)&&XG P (QN I.lay).length fs.toList
 |_=>false
def SC (b:Bool):Option Value→Bool
 |some (.bool false)=>b
 |some (.int .i64 n)=>!b&&decide (n=0)
 |_=>false
def XH (P:Program) (ti:Nat→Option TI) (t kt:Nat) (b:Bool):Bool:=match P.underlying t with
 |some (.map ZE el)=>Nat.beq ZE kt&&(match P.info? el with|some i=>SC b i.zero|none=>false)&&(match ti kt with|some I=>pI I.bX&&SB P kt I|none=>false)
 |_=>false
def zD:List (Nat×(Nat×Bool))→Nat→Option (Nat×Bool)
 |[],_=>none
 |(k,s)::r,t=>bif Nat.beq k t then some s else zD r t
theorem K0 {l:List (Nat×(Nat×Bool))} {t:Nat} {I:Nat×Bool} (h:zD l t=some I):(t,I)∈l:=by
 induction l with
 |nil=>simp [zD] at h
 |cons p l ih=>
  obtain ⟨k,s⟩:=p
  simp only [zD,cw] at h
  by_cases hk:k=t
  ·subst hk;simp at h;subst h;simp
  ·simp only [hk,decide_false,cond_false] at h
   exact List.mem_cons_of_mem _ (ih h)
def QP (P:Program) (ti:Nat→Option TI) (l:List (Nat×(Nat×Bool))):Bool:=l.all fun p=>XH P ti p.1 p.2.1 p.2.2
theorem r6 {k:Kd} {ks:List MV} (h:cf [k] ks=true): ∃m,ks=[m]∧wc k m=true:=by
 cases ks with
 |nil=>simp [cf] at h
 |cons m r=>
  cases r with
  |cons=>simp [cf] at h
  |nil=>exact ⟨m,rfl,by simpa [cf] using h⟩
theorem fa {P:Program} {t:TypeId} {d:TypeDesc} (hu:P.underlying t=some d) (hd:wv d=true) (em:Bool) (n:Nat) (v:Value) (w:World):(Instr.checkKey em (n+1) t v).run P w= .ok () w:=by
 rw [Instr.checkKey]
 simp only [Sem.run_bind,run_underlying hu,Result.andThen]
 cases d<;>simp [wv] at hd<;>cases v<;>rfl
theorem zE {P:Program} {t:TypeId} {d:TypeDesc} (hu:P.underlying t=some d) (hd:wv d=true) {xs:Array Value} {off:Nat} (h:off<xs.size) (w:World):(Go.part t xs off).run P w= .ok xs[off] w:=by
 cases d<;>simp [wv] at hd<;>simp [Go.part,isAgg,run_underlying hu,h]
theorem HU {P:Program} {c:Ctx} {l:List (Nat×(Nat×Bool))} (h:QP P c.ti l=true) (hm: ∀t p,c.mt t=some p→zD l t=some p):qV P c:=by
 intro t s hs
 unfold nR at hs
 cases ES:c.mt t with
 |none=>simp [ES] at hs
 |some p=>
  obtain ⟨kt,b⟩:=p
  simp only [ES] at hs
  cases hI:c.tv kt with
  |none=>simp [hI] at hs
  |some I=>
   simp only [hI] at hs
   cases hit:uu ⟨I.st,I.lay,b⟩ with
   |true=>simp [hit] at hs
   |false=>
   simp only [hit,cond_false,Option.some.injEq] at hs
   subst hs
   obtain ⟨Ho,GU⟩:=bl hI
   have hb:=List.all_eq_true.1 h _ (K0 (hm t _ ES))
   simp only [XH] at hb
   split at hb
   ·rename_i ZE el hu
    simp only [Bool.and_eq_true] at hb
    obtain ⟨⟨ov,oe⟩,TF⟩:=hb
    have ov:=Nat.eq_of_beq_eq_true ov
    subst ov
    split at oe
    ·rename_i inf abl
     rw [Ho] at TF
     simp only [Bool.and_eq_true] at TF
     have hk:=TF.2
     have hz: ∀w:World,(zeroValue el).run P w= .ok (sG b (eu b)) w:=by
      intro w
      have:inf.zero=some (sG b (eu b)):=by
       generalize inf.zero=z at oe
       unfold SC at oe
       split at oe
       ·subst oe;rfl
       ·simp only [Bool.and_eq_true,Bool.not_eq_true'] at oe
        obtain ⟨h1,h2⟩:=oe
        subst h1
        rw [of_decide_eq_true h2];rfl
       ·cases oe
      simp [zeroValue,typeInfo,abl,this]
     unfold SB at hk
     refine ⟨ZE,el,hu,hz,?_⟩
     split at hk
     ·rename_i hd
      simp only [Bool.and_eq_true,Bool.not_eq_true'] at hk
      have hl:=cN hk.2
      refine ⟨fun em ks w hf=>fa hd rfl em 9999 _ w,_,hd,.inl fun a b' ha xQ=> ?_⟩
      rw [hl] at ha xQ
      obtain ⟨x,rfl,hx⟩:=r6 ha
      obtain ⟨y,rfl,hy⟩:=r6 xQ
      cases x<;>simp [wc] at hx
      cases y<;>simp [wc] at hy
      rename_i p q
      simp only [hk.1,db,Instr.sameNow,cH,vZ,Bool.and_true]
      congr 1;rw [Bool.eq_iff_iff];simp only [beq_iff_eq,decide_eq_true_eq];exact eq_comm
     ·rename_i k hd
      simp only [Bool.and_eq_true,Bool.not_eq_true'] at hk
      have hl:=cN hk.2
      refine ⟨fun em ks w hf=>fa hd rfl em 9999 _ w,_,hd,.inl fun a b' ha xQ=> ?_⟩
      rw [hl] at ha xQ
      obtain ⟨x,rfl,hx⟩:=r6 ha
      obtain ⟨y,rfl,hy⟩:=r6 xQ
      cases x<;>simp [wc] at hx
      cases y<;>simp [wc] at hy
      subst hx;subst hy
      rename_i p q
      simp only [hk.1,db,Instr.sameNow,cH,vZ,Bool.and_true,if_true,decide_true,Bool.true_and]
      congr 1;rw [Bool.eq_iff_iff];simp only [beq_iff_eq,decide_eq_true_eq];exact eq_comm
     ·rename_i hd
      simp only [Bool.and_eq_true,Bool.not_eq_true'] at hk
      have hl:=cN hk.2
      refine ⟨fun em ks w hf=>fa hd rfl em 9999 _ w,_,hd,.inl fun a b' ha xQ=> ?_⟩
      rw [hl] at ha xQ
      obtain ⟨x,rfl,hx⟩:=r6 ha
      obtain ⟨y,rfl,hy⟩:=r6 xQ
      cases x<;>simp [wc] at hx
      cases y<;>simp [wc] at hy
      rename_i p q
      simp only [hk.1,db,Instr.sameNow,cH,vZ,Bool.and_true]
      congr 1;rw [beq_toListBytes,ByteArray.toList_eq,ByteArray.toList_eq,Bool.eq_iff_iff];simp only [beq_iff_eq,decide_eq_true_eq,List.toList_toArray];exact eq_comm
     ·rename_i fs hd
      simp only [Bool.and_eq_true] at hk
      obtain ⟨⟨c8,Sv⟩,NL⟩:=hk
      split at Sv
      ·rename_i ks G0
       have Sv:=JA Sv
       subst Sv
       have XI: ∀q,db true q= .agg (q.flatMap vT).toArray:=by intro q;rfl
       refine ⟨fun em q w hf=> ?_,_,hd,.inr fun x y hx hy=>⟨?_,fun w=> ?_⟩⟩
       ·have hlen:(q.flatMap vT).length=(QN I.lay).length:=(DW hf).length
        rw [c8,XI,show (10000:Nat)=9999+1 from rfl,Instr.checkKey]
        simp only [Sem.run_bind,run_underlying hd,Result.andThen_ok]
        rw [←Array.forIn_toList]
        have each: ∀f∈fs.toList,(∃d,P.underlying f.type=some d∧wv d=true)∧f.offset<(q.flatMap vT).toArray.size:=by
         intro f hf
         have:=List.all_eq_true.1 NL f hf
         simp only [Bool.and_eq_true] at this
         obtain ⟨h1,h2⟩:=this
         split at h1
         ·rename_i d hd;exact ⟨⟨d,hd,h1⟩,by have:=Nat.le_of_ble_eq_true h2;simp only [List.size_toArray];omega⟩
         ·cases h1
        clear NL
        generalize fs.toList=L at each
        generalize (q.flatMap vT).toArray=xs at each
        induction L with
        |nil=>simp
        |cons f L ih=>
         obtain ⟨⟨d,h1,h2⟩,h3⟩:=each f (by simp)
         have ov:=fa h1 h2 em 9998 xs[f.offset] w
         have oe:=zE (P:=P) h1 h2 h3 w
         by_cases hn:f.name= "_"
         ·simp only [List.forIn_cons,Sem.run_bind,hn,ne_eq,not_true_eq_false,if_false,Result.andThen_ok,Sem.run_pure]
          exact ih (fun y hy=>each y (by simp [hy]))
         ·simp only [List.forIn_cons,Sem.run_bind,hn,ne_eq,not_false_eq_true,if_true,Result.andThen_ok,ov,oe,Sem.run_pure]
          exact ih (fun y hy=>each y (by simp [hy]))
       ·rw [c8,XI,XI];rfl
       ·rw [c8,XI,XI]
        have:=xw (P:=P) (w:=w) 20 ZE _ G0 9980 (.agg (x.flatMap vT).toArray) (.agg (y.flatMap vT).toArray) (x.flatMap vT) (y.flatMap vT) (by simp [na,hd]) (by simp [na,hd]) (DW hx) (DW hy)
        rw [QO hx hy] at this
        exact this
      ·cases Sv
     ·cases hk
    ·cases oe
   ·cases hb
end Dn
/-
  Functions that are handed a variable do what their abstract run says. Conditions: none.
-/
set_option linter.unusedSimpArgs false
set_option linter.unusedVariables false
namespace Dn
open Go
section
variable {P:Program} {c:Ctx} {Z:aX} {e e':Env} {st bj:St} {a a':Act} {w w':World} {R:Type} {r:R}
theorem K1 {rs:List ResultVar} (hT:fI P c.ti): ∀{e:Env} {st:St} {K:List MV→St→Option R},bn c Z e st a w→Km c st rs K=some r→
 ∃e' bj ms vs,bn c Z e' bj a w∧Ext Z.In e e'∧(rs.mapM (fM a.tmps)).run P w= .ok vs w∧bG e'.key e'.φ vs ms∧K ms bj=some r:=by
 induction rs with
 |nil=>intro e st K h hK;exact ⟨e,st,[],[],h,.refl _ _,by simp,rfl,hK⟩
 |cons x rs ih=>
  intro e st K h hK
  have go: ∀(s:Slot) (v:Value),af e v s→(fM a.tmps x).run P w= .ok v w→(ig st s fun m st=>Km c st rs fun ms st=>K (m::ms) st)=some r→
   ∃e' bj ms vs,bn c Z e' bj a w∧Ext Z.In e e'∧((x::rs).mapM (fM a.tmps)).run P w= .ok vs w∧bG e'.key e'.φ vs ms∧K ms bj=some r:=by
   intro s v hs bw hK
   obtain ⟨e1,cb,m,h1,h2,h3,h4,hK⟩:=jc h hs hK
   obtain ⟨e2,cr,ms,vs,q1,q2,q3,q4,hK⟩:=ih h1 hK
   refine ⟨e2,cr,m::ms,v::vs,q1,h2.trans q2,?_,⟨v,vs,rfl,?_,q4⟩,hK⟩
   ·simp [List.mapM_cons,bw,q3]
   ·have:=h4.mono q2.on.φ
    rw [←q2.on.key] at this;exact this
  simp only [Km] at hK
  cases x with
  |tmp t=>
   simp only at hK
   have hs:=h.slot t
   by_cases hb: ∃cs,ak st.fr t= .box cs
   ·obtain ⟨cs,hb⟩:=hb
    rw [hb] at hK
    simp [ig] at hK
   ·refine go (ak st.fr t) (a.tmps.getD t undef) ?_ rfl hK
    generalize ak st.fr t=s at hs hb
    cases s<;>first|exact hs|exact absurd ⟨_,rfl⟩ hb
  |cell b t=>
   simp only at hK
   have hs:=h.slot b
   split at hK
   ·rename_i I cs hI hb
    obtain ⟨Ho,GU⟩:=bl hI
    rw [hb] at hs
    obtain ⟨hv,uH⟩:=hs
    cases tM:cX cs||qG b with
    |true=>simp [tM] at hK
    |false=>
    obtain ⟨od,Xz⟩:=Bool.or_eq_false_iff.1 tM
    simp only [tM,cond_false] at hK
    have hv:=hv.1 Xz
    rw [nS od] at hv
    obtain ⟨arr,T,cB,lg⟩:=uH.cells od
    have hm:w.rangeAt (e.B b) 0 arr.toList:=by
     intro j v hj
     rw [Nat.zero_add,cell_of cB];simpa using hj
    obtain ⟨v,s,h1,h2,h3,h4⟩:=eX (P:=P) (st:=st) (s:= .skip) (hT t I Ho) GU lg hm hK
    refine go s v h2 ?_ h4
    simpa [fM,hv,asAddr,Instr.loadAt,Instr.sureAddr] using h1 w hm
   ·simp at hK
theorem zF {key:Nat→Nat} {φ:Ph} {v:Value} {m:MV} (h:dW key φ v (.cell m)):False:=by
 have:=h.1
 simp [MV.one] at this
theorem XJ (off pos:Nat):qG (1000000+off *1000+pos)=true:=Nat.ble_eq_true_of_le (by omega)
theorem Ob {f pos:Nat} {ks:List LK} {fn:Func} {bo:List (List Kd)} {ms:List MV} {m:MV} (hG:Good P c) (hD:zv P c) (hf:P.funcs[f]? =some fn) (uR:(fn.name== "runtime.NumGoroutine")=false)
 (hn:c.n=fn.ntmps) (Xb:fn.ntmps≤1000000) (lh:fn.params.size+bo.length≤fn.ntmps) (hg:c.dn (c.key f)=true) (sI:c.sig (c.key f)=some (pos,ks)) (hb:I9 c bo pos ks fn ms=some m):jD P c f ms m:=by
 intro φ w Z vs hz dD gK
 unfold I9 at hb
 cases my:fn.body with
 |none=>simp [my] at hb
 |some b=>
 simp only [my] at hb
 split at hb
 rotate_left
 ·simp at hb
 rename_i b' off ls xQ tM
 cases xQ
 cases ic:!dV c ks||!Nat.ble pos 999 with
 |true=>simp [ic] at hb
 |false=>
 simp only [ic,cond_false] at hb
 simp only [Bool.or_eq_false_iff,Bool.not_eq_false'] at ic
 obtain ⟨eH,dk⟩:=ic
 have dk:=Nat.le_of_ble_eq_true dk
 simp only [dX,hg,if_true] at dD
 have hC:Sn c Z φ w (c.key f) vs ms:=by
  rcases dD with ⟨v0,v1,v2,xs,m1,ys,_,rfl,_,h4,_⟩|⟨v0,v1,v2,xs,m1,m2,_,rfl,_,_,h4,h5⟩|h
  ·exfalso
   rcases pos with _|_|_|pos<;>simp at tM
   subst tM
   exact zF h4
  ·exfalso
   rcases pos with _|_|_|pos<;>simp at tM
   ·subst tM;exact zF h4
   ·subst tM;exact zF h5
  ·exact h
 obtain ⟨pos',Bl,Kl,qu,aM,rT,V6,T8,oM,nm⟩:=hC
 rw [sI] at rT
 simp only [Option.some.injEq,Prod.mk.injEq] at rT
 obtain ⟨rfl,rfl⟩:=rT
 rw [tM] at T8
 simp only [Option.some.injEq,MV.cell.injEq,MV.func.injEq] at T8
 obtain ⟨rfl,rfl⟩:=T8
 obtain ⟨cs,mm,E,arr,T,qX,cB,Xj,lr,lg,dz,cY⟩:=nm
 let e:Env:=⟨c.key,φ,E,fun _=>aM,mm⟩
 have bw:(callFunc f vs.toArray).run P w= .ok (.enter f vs.toArray) w:=by
  have Dz: ¬fn.name= "runtime.NumGoroutine" :=by simpa using uR
  simp [callFunc,hf,Dz,my]
 unfold eZ
 rw [bw]
 refine calls_of_wp hf my ?_
 have oM:bG e.key e.φ vs (ms.set pos (.rp [])):=oM
 obtain ⟨fr,rest,iO,pH,hb,rfl,l1,a2,k1,s1⟩:=xu oM hb
 obtain ⟨j7,hb,l2,k2,s2⟩:=Ct a2 hb
 simp only [pn] at hb
 obtain ⟨dp,XK,rO,g1,hb⟩:=eR hb
 cases XK with
 |cons=>simp [gN] at hb
 |nil=>
 simp only [gN] at hb
 have dJ:cs=dp∧mm=rO.aE:=by
  unfold Jm at qX
  rw [g1] at qX
  simp only [gN,Option.some.injEq,Prod.mk.injEq] at qX
  exact ⟨qX.1.symm,qX.2.symm⟩
 obtain ⟨rfl,Se⟩:=dJ
 rw [←Se] at hb
 have htn:(iO++pH).toArray.size=fn.params.size+bo.length:=by simp [l1,l2]
 let a:Act:={tmps:=(iO++pH).toArray++Array.replicate (fn.ntmps-(iO++pH).toArray.size) undef,defers:=[]}
 have EO: ∀(t:Nat) (v:Value),(iO++pH)[t]? =some v→a.tmps.getD t undef=v:=by
  intro t v ht
  have cA:t<(iO++pH).length:=(List.getElem?_eq_some_iff.1 ht).1
  rw [Array.getD_eq_getD_getElem?]
  show (((iO++pH).toArray++Array.replicate _ undef)[t]?).getD undef=v
  rw [Array.getElem?_append_left (by simpa using cA)]
  simp only [List.getElem?_toArray]
  rw [ht];rfl
 have zw: ∀t,cc (ak (fr++j7) t)=false∧(∀cs,ak (fr++j7) t≠ .box cs)∧af e (a.tmps.getD t undef) (ak (fr++j7) t):=by
  intro t
  rw [qO]
  by_cases h1:t∈aD fr
  ·simp only [h1,if_true]
   obtain ⟨g1,g2,v,g3,g4⟩:=s1 _ (uQ h1)
   refine ⟨g1,?_,?_⟩
   ·intro cs hc;simp only [hc,bR] at g2;cases g2
   ·rw [EO t v ?_];exact g4
    have cA:t<iO.length:=(List.getElem?_eq_some_iff.1 g3).1
    rw [List.getElem?_append_left cA];exact g3
  ·simp only [h1,if_false]
   by_cases h2:t∈aD j7
   ·obtain ⟨g1,g2,v,g3,g4⟩:=s2 _ (uQ h2)
    refine ⟨g1,g2,?_⟩
    rw [EO t v ?_];exact g4
    have hk:=h2
    rw [k2,List.mem_range'] at hk
    obtain ⟨i,hi,he⟩:=hk
    have sX:fn.params.size=iO.length:=by rw [l1];simp
    rw [List.getElem?_append_right (by omega),←sX];exact g3
   ·rw [lR _ _ h2]
    exact ⟨rfl,fun cs hc=>(by cases hc),by simp [af]⟩
 obtain ⟨q,hq⟩: ∃q,q=1000000+off *1000+pos:=⟨_,rfl⟩
 have HM:qG q=true:=by rw [hq];exact XJ off pos
 have Xs:posOf q=pos:=by rw [hq];unfold posOf;omega
 have hof:EX q=off:=by rw [hq];unfold EX;omega
 rw [←hq] at hb
 let Zc:aX:={aX.plain Z with bA:=[pos],T:=fun _=> .pointer (some ⟨aM,off,none⟩)}
 have XL:a.tmps.getD pos undef= .pointer (some ⟨aM,off,none⟩):=EO pos _ V6
 have Fz: ∀t,ak ((q,Slot.box cs)::(fr++j7)) t=if t=q then .box cs else ak (fr++j7) t:=by
  intro t
  simp only [ak,cw]
  by_cases K3:t=q
  ·subst K3;simp
  ·have: ¬q=t:=fun h=>K3 h.symm
   simp [K3,this]
 have XM:aD (fr++j7)=List.range' 0 (fn.params.toList.length+bo.length):=by
  have:aD (fr++j7)=aD fr++aD j7:=by simp [aD]
  rw [this,k1,k2]
  have:=List.range'_append_1 (s:=0) (m:=fn.params.toList.length) (n:=bo.length)
  simpa using this
 have SD: ∀t ds,ak ((q,Slot.box cs)::(fr++j7)) t= .box ds→t=q:=by
  intro t ds ht
  rw [Fz] at ht
  by_cases K3:t=q
  ·exact K3
  ·rw [if_neg K3] at ht;exact absurd ht ((zw t).2.1 ds)
 have j9:bn c Zc e ⟨[pos],[],(q,.box cs)::(fr++j7),mm⟩ a w:=by
  refine ⟨⟨rfl,rfl,rfl,fun t ht=> ?_⟩,?_,rfl,rfl,?_,?_,?_,fun f o ho=> ?_,fun t t' cs dp h1 h2 cm=> ?_,fun t ds f o h1 ho=> ?_,fun f f' o o' k h1 h2 h3 h4=>cY f f' o o' k h1 h2 h3 h4,gK,hz⟩
  ·have:t=pos:=by simpa [Zc] using ht
   rw [this];exact XL
  ·show ((iO++pH).toArray++Array.replicate (fn.ntmps-(iO++pH).toArray.size) undef).size=c.n
   rw [Array.size_append,Array.size_replicate,htn,hn];omega
  ·show (aD ((q,Slot.box cs)::(fr++j7))).Nodup
   show (q::aD (fr++j7)).Nodup
   rw [XM]
   refine List.nodup_cons.2 ⟨fun hm=> ?_,List.nodup_range'⟩
   rw [List.mem_range'] at hm
   obtain ⟨i,hi,he⟩:=hm
   have:fn.params.toList.length=fn.params.size:=by simp
   omega
  ·intro t
   show bu Zc e w t _ (ak ((q,Slot.box cs)::(fr++j7)) t)
   rw [Fz]
   by_cases K3:t=q
   ·rw [if_pos K3,K3]
    exact ⟨⟨fun hp=>(by rw [HM] at hp;cases hp),fun _=>⟨by rw [Xs];simp [Zc],by rw [hof]⟩⟩,⟨.inr Xj,⟨_,cB,rfl,lg⟩,lr⟩⟩
   ·rw [if_neg K3]
    obtain ⟨g1,g2,g3⟩:=zw t
    generalize ak (fr++j7) t=s at g1 g2 g3
    cases s<;>first|exact g3|exact absurd rfl (g2 _)
  ·intro t
   show bJ _ (ak ((q,Slot.box cs)::(fr++j7)) t)
   rw [Fz]
   by_cases K3:t=q
   ·rw [if_pos K3];trivial
   ·rw [if_neg K3];exact oK (zw t).1
  ·obtain ⟨I,cells,q1,q2,q3,q4,q5⟩:=(dz f o ho).1.row
   exact ⟨I,cells,q1,q2,q3,q4,fun b hb=>⟨.inr (q5 b hb).1,(q5 b hb).2.1,fun hc=>by simp [Zc,aX.fz,aX.plain] at hc⟩⟩
  ·exact absurd ((SD t _ h1).trans (SD t' _ h2).symm) cm
  ·exact (dz f o ho).2
 refine nA hG hD b j9 hb ?_
 intro n e' bj a' w' h' t' hK
 cases hle:Nat.ble n 1 with
 |false=>simp [hle] at hK
 |true=>
  simp only [hle,cond_true] at hK
  obtain ⟨e2,cr,ns,us,q1,q2,q3,q4,hK⟩:=K1 (P:=P) hG.ti h' hK
  split at hK
  rotate_left
  ·simp at hK
  rename_i lp sZ
  cases Jc:cX lp with
  |true=>simp [Jc] at hK
  |false=>
  simp only [Jc,cond_false] at hK
  obtain ⟨outs,ps,ht,hK⟩:=tK hK
  simp only [Option.some.injEq] at hK
  have oJ:(results fn a'.tmps).run P w'= .ok (if h:us.toArray.size=1 then us.toArray[0] else .tuple us.toArray) w':=by
   have hm:(fn.results.mapM (fM a'.tmps)).run P w'= .ok us.toArray w':=by
    rw [Array.mapM_eq_mapM_toList]
    simp [q3]
   have Jc:results fn a'.tmps=(do let vs←fn.results.mapM (fM a'.tmps);pure (if h:vs.size=1 then vs[0] else .tuple vs)):=by
    unfold results
    congr 1
   rw [Jc]
   simp [hm]
  have XN:=q1.slot q
  rw [sZ] at XN
  obtain ⟨_,hT⟩:=XN.1.2 HM
  have hB:e2.B q=aM:=by
   have hT:Value.pointer (some ⟨aM,off,none⟩)= .pointer (some ⟨e2.B q,EX q,none⟩):=hT
   simp only [Value.pointer.injEq,Option.some.injEq,Addr.mk.injEq] at hT
   exact hT.1.symm
  have XO:aV cr.bA q=false:=by
   rw [q1.defers.2.1]
   cases hh:aV Zc.bA q with
   |false=>rfl
   |true=>
    have:=(aW _ _).1 hh
    have:q=pos:=by simpa [Zc] using this
    omega
  have hco:=(zf q1 sZ Jc eH ht).wide (uN q1 sZ XO ht)
  have EP:e2.key=c.key:=q1.key
  have FH: ∃φ',Trans Z φ w φ' w'∧uq φ' w'∧s4 c Z φ' w' (c.key f) (iO++pH) (if h:us.toArray.size=1 then us.toArray[0] else .tuple us.toArray) m:=by
   refine ⟨e2.φ,t'.trans q2.tr,q1.jb,?_⟩
   rw [EP] at q4
   subst hK
   refine ⟨?_,pos,ks,aM,off,sI,V6,by rw [←hB];exact hco⟩
   by_cases QD: ∃m',ns=[m']
   ·obtain ⟨m',rfl⟩:=QD
    obtain ⟨v,u,rfl,g1,g2⟩:=q4
    have g2:u=[]:=g2
    subst g2
    simp only [List.size_toArray,List.length_singleton,dite_true]
    cases m'<;>first|exact g1|exact absurd g1.1 (by simp [MV.one])
   ·have hm:WA ns= .dy ns:=by
     cases ns with
     |nil=>rfl
     |cons x l=>
      cases l with
      |nil=>exact absurd ⟨x,rfl⟩ QD
      |cons=>rfl
    have cm:us.toArray.size≠1:=by
     intro h1
     have:=q4.length
     rw [List.size_toArray] at h1
     rw [h1] at this
     obtain ⟨m1,h2⟩:=List.length_eq_one_iff.1 this.symm
     exact QD ⟨m1,h2⟩
    rw [hm,dif_neg cm]
    exact ⟨us.toArray,rfl,by simpa using q4⟩
  match n,hle with
  |0,_=>exact ⟨h'.defers.1,_,oJ,_,rfl,FH⟩
  |1,_=>exact ⟨h'.defers.1,_,oJ,_,rfl,FH⟩
  |n+2,hle=>simp [Nat.ble] at hle
end
end Dn
/-
  Operations whose order is open. Conditions: none.
-/
set_option linter.unusedSimpArgs false
set_option linter.unusedVariables false
namespace Dn
open Go
section
variable {P:Program} {c:Ctx} {ops:Array Oper} {N:Act→World→Prop}
def nb (N:Act→World→Prop):Exit→Act→World→Prop
 | .normal,a,w=>N a w
 |_,_,_=>False
def pJ (c:Ctx) (oi:Oper) (ops:Array Oper) (i:Nat):Bool:=match ops[i]? with|some o=>MC c o||sQ oi o|none=>true
def Bp (P:Program) (c:Ctx) (ops:Array Oper) (N:Act→World→Prop) (φ:Ph):Nat→Array Bool→Act→World→Prop
 |0,listed,a,w=>Region.ready .any ops listed=[]∧N a w
 |fuel+1,listed,a,w=>(Region.ready .any ops listed=[]→N a w)∧
  ∀i∈Region.ready .any ops listed,wpOp P ops (nb N) i (fun a' w'=>((∀oi,pJ c oi ops i=true→dh c oi w w')∧uq φ w')∧Bp P c ops N φ fuel (listed.setIfInBounds i true) a' w') a w
theorem K4 {φ φ':Ph} (hp:lE φ φ'): ∀(fuel:Nat) (listed:Array Bool) (a:Act) (w:World),Bp P c ops N φ' fuel listed a w→Bp P c ops N φ fuel listed a w:=by
 intro fuel
 induction fuel with
 |zero=>intro listed a w h;exact h
 |succ fuel ih=>intro listed a w h;exact ⟨h.1,fun i hi=>wpOp_mono (fun a w h=>⟨⟨h.1.1,fun b o v hv=>h.1.2 b o v (hp b o v hv)⟩,ih _ _ _ h.2⟩) (h.2 i hi)⟩
theorem Oc {φ:Ph}: ∀(fuel:Nat) (listed:Array Bool) (a:Act) (w:World),Bp P c ops N φ fuel listed a w→wpAny P .any ops (nb N) fuel listed a w:=by
 intro fuel
 induction fuel with
 |zero=>intro listed a w h;exact h
 |succ fuel ih=>intro listed a w h;exact ⟨h.1,fun i hi=>wpOp_mono (fun a w h=>ih _ _ _ h.2) (h.2 i hi)⟩
theorem HV {oi oj p:Oper} {w w':World} (h1:sQ oi p=true) (h2:sQ oj p=true) (h:dh c oi w w'):dh c oj w w':=by
 unfold sQ at h1 h2
 split at h1
 ·rename_i t t' g1 g2
  split at h2
  ·rename_i u u' g3 g4
   rw [g2] at g4
   cases g4
   have e1:=Nat.eq_of_beq_eq_true h1
   have e2:=Nat.eq_of_beq_eq_true h2
   subst e1;subst e2
   simpa [dh,KK,g1,g3] using h
  ·cases h2
 ·cases h1
theorem T9 {j:Nat} {oi oj:Oper} {v:Value} (hj:ops[j]? =some oj) (ox:oi.apart ops oj=true)
 (hsi: ∀cs b,oi.op≠ .select cs b) (Wc: ∀cs b,oj.op≠ .select cs b) {K:Act→World→Prop} {a:Act} {w:World} (h:wpOp P ops (nb N) j K (a.put oi.dst v) w):
 wpOp P ops (nb N) j (fun a' w'=>(execOp a'.eval oi=execOp a.eval oi∧Region.wanted oi (yielded ops a'.tmps)=Region.wanted oi (yielded ops a.tmps))∧K (a'.put oi.dst v) w') a w:=by
 obtain ⟨h1,h2,h3⟩:=Oper.apart_spec ox
 have keep: ∀(a:Act) (u:Value),execOp (a.put oj.dst u).eval oi=execOp a.eval oi∧Region.wanted oi (yielded ops (a.put oj.dst u).tmps)=Region.wanted oi (yielded ops a.tmps):=
  fun a u=>⟨execOp_put oi hsi a oj.dst u h3,wanted_put oi a oj.dst u h3⟩
 unfold wpOp at *
 simp only [hj] at *
 rw [wanted_put oj a oi.dst v h1] at h
 split
 ·rename_i hw
  simp only [hw,if_true] at h
  rcases h with h|⟨XP,Od⟩
  case inr=>obtain ⟨_,_,hf⟩:=Od;exact hf.elim
  refine .inl ?_
  unfold Oper.wp at *
  rw [execOp_put oj Wc a oi.dst v h1] at h
  generalize (execOp a.eval oj).run P w=r at *
  cases r with
  |ok n w'=>
   cases n<;>simp only [Oper.upon] at h⊢
   case value u=>exact ⟨keep a u,by rw [←Act.put_comm a v u h2];exact h⟩
   case skip=>exact ⟨keep a _,by rw [←Act.put_comm a v undef h2];exact h⟩
   case defer d=>
    refine ⟨keep _ _,?_⟩
    rw [←Act.put_comm _ v undef h2,←Act.put_defers]
    exact h
   case enter f args=>
    refine Calls.mono h fun x rQ he=> ?_
    cases x with
    |returned u=>exact ⟨keep a u,by rw [←Act.put_comm a v u h2];exact he⟩
    |panicked c=>exact he
    |outgrown=>exact he
   case row row args=>exact Rows.mono h fun u rQ he=>⟨keep a u,by rw [←Act.put_comm a v u h2];exact he⟩
  |halt x w'=>
   cases x<;>simp only [Oper.upon] at h⊢
   case panic u=>exact h
 ·rename_i hw
  simp only [hw] at h
  exact ⟨keep a _,by rw [←Act.put_comm a v undef h2];exact h⟩
def JB (P:Program) (c:Ctx) (ops:Array Oper) (φ:Ph) (o:Oper) (v:Value) (a:Act) (w:World):Prop:=
 (Region.wanted o (yielded ops a.tmps)=true∧ ∀w',(fX c o=true→(still c o=false→dh c o w w')∧uq φ w')→(execOp a.eval o).run P w'= .ok (.value v) w')∨
 (Region.wanted o (yielded ops a.tmps)=false∧v=undef)
theorem zG {φ:Ph} {i:Nat} {oi:Oper} {v:Value} {D:List Nat} (hD: ∀j oj,j∈D→j≠i→ops[j]? =some oj→ ∃e∈oj.after,Region.binds .any e=true∧e.on∈D) (hi:ops[i]? =some oi) (FO: ∀(j:Nat) (o:Oper) cs b,ops[j]? =some o→o.op≠ .select cs b):
 ∀(fuel:Nat) (listed:Array Bool) (a:Act) (w:World),
  (∀j oj,ops[j]? =some oj→j∉D→j≠i→listed.getD j true=false→oi.apart ops oj=true∧(fX c oi=true→still c oi=false→pJ c oi ops j=true))→(∀d∈D,listed.getD d false=false)→
  i∈Region.ready .any ops listed→JB P c ops φ oi v a w→uq φ w→
  Bp P c ops N φ fuel (listed.setIfInBounds i true) (a.put oi.dst v) w→Bp P c ops N φ (fuel+1) listed a w:=by
 have self: ∀(fuel:Nat) (listed:Array Bool) (a:Act) (w:World),JB P c ops φ oi v a w→uq φ w→Bp P c ops N φ fuel (listed.setIfInBounds i true) (a.put oi.dst v) w→
  wpOp P ops (nb N) i (fun a' w'=>((∀oi,pJ c oi ops i=true→dh c oi w w')∧uq φ w')∧Bp P c ops N φ fuel (listed.setIfInBounds i true) a' w') a w:=by
  intro fuel listed a w hy hm H
  unfold wpOp
  simp only [hi]
  rcases hy with ⟨hw,hv⟩|⟨hw,rfl⟩
  ·simp only [hw,if_true,Oper.wp,hv w (fun _=>⟨fun _=>(cy.refl w).for,hm⟩),Oper.upon]
   exact .inl ⟨⟨fun _ _=>(cy.refl w).for,hm⟩,H⟩
  ·simp only [hw,Bool.false_eq_true,if_false]
   exact ⟨⟨fun _ _=>(cy.refl w).for,hm⟩,H⟩
 intro fuel
 induction fuel with
 |zero=>
  intro listed a w _ _ hr hy hm H
  refine ⟨fun h=>(by rw [h] at hr;cases hr),fun j hj=> ?_⟩
  by_cases QQ:j=i
  ·subst QQ;exact self 0 listed a w hy hm H
  ·have:=ready_mono hj QQ
   rw [H.1] at this
   cases this
 |succ fuel ih=>
  intro listed a w lr Bq hr hy hm H
  refine ⟨fun h=>(by rw [h] at hr;cases hr),fun j hj=> ?_⟩
  by_cases QQ:j=i
  ·subst QQ;exact self (fuel+1) listed a w hy hm H
  ·have h1:=H.2 j (ready_mono hj QQ)
   obtain ⟨QR,oj,SE,jT⟩:=mem_ready.1 hj
   have ZF:j∉D:=by
    intro hjd
    obtain ⟨e,he,hb,nU⟩:=hD j oj hjd QQ SE
    have h1:=jT e he hb
    rw [Bq e.on nU] at h1;cases h1
   obtain ⟨ox,G3⟩:=lr j oj SE ZF QQ QR
   have h2:=T9 SE ox (fun cs b=>FO i oi cs b hi) (fun cs b=>FO j oj cs b SE) h1
   have XQ: ∀d∈D,(listed.setIfInBounds j true).getD d false=false:=by
    intro d hd
    rw [getD_set_ne false (fun he=>ZF (by rw [he];exact hd))];exact Bq d hd
   have Ua: ∀k ok,ops[k]? =some ok→k∉D→k≠i→(listed.setIfInBounds j true).getD k true=false→oi.apart ops ok=true∧(fX c oi=true→still c oi=false→pJ c oi ops k=true):=fun k ok hk hkD hki TX=>by
    refine lr k ok hk hkD hki ?_
    by_cases QS:j=k
    ·subst QS;exact QR
    ·rw [getD_set_ne true QS] at TX;exact TX
   refine wpOp_mono (fun a' w' h3=>⟨h3.2.1,ih (listed.setIfInBounds j true) a' w' Ua XQ (ready_mono hr (Ne.symm QQ)) ?_ h3.2.1.2 ?_⟩) h2
   ·obtain ⟨⟨he,Ub⟩,⟨hg,_⟩,_⟩:=h3
    rcases hy with ⟨hw,hv⟩|⟨hw,rfl⟩
    ·refine .inl ⟨by rw [Ub];exact hw,fun rQ Ma=> ?_⟩
     rw [he]
     exact hv rQ (fun hl=>⟨fun hs=>(hg oi (G3 hl hs)).trans ((Ma hl).1 hs),(Ma hl).2⟩)
    ·exact .inr ⟨by rw [Ub];exact hw,rfl⟩
   ·rw [Array.setIfInBounds_comm _ _ QQ]
    exact h3.2.2
variable {Z:aX} {R:Type} {K:St→Option R} {r:R}
theorem K5 (op:Op):He op=op.operands.toList:=by
 cases op<;>first|rfl|simp [He,Op.operands,Call.operands]
 all_goals first|rfl|(rename_i c;cases c.callee<;>simp)
theorem Oe (l:List Operand):E7 l=l.filterMap fun| .tmp t=>some t|_=>none:=by
 induction l with
 |nil=>rfl
 |cons x l ih=>cases x<;>simp [E7,ih]
theorem CA (o:Oper):Ds ops.toList o=o.looksAt ops:=by
 unfold Ds Oper.looksAt
 rw [K5,Oe]
 congr 1
 cases o.guard with
 |none=>rfl
 |some g=>
  obtain ⟨g,wnt⟩:=g
  simp only [Array.getElem?_toList]
  cases ops[g]? <;>rfl
theorem r7 {x y:Oper} (h:Dt ops.toList x y=true):x.apart ops y=true:=by
 unfold Dt at h
 unfold Oper.apart
 rw [CA,CA] at h
 have hn: ∀(l:List Nat) (d:Nat),aV l d=l.contains d:=by
  intro l d
  have:=aW l d
  cases h1:aV l d<;>cases h2:l.contains d<;>simp_all
 cases hx:x.dst<;>cases hy:y.dst<;>simp_all [bne,cw]
theorem oN (e:Edge):tx e=Region.binds .any e:=by
 unfold tx Region.binds
 cases e.ground<;>rfl
structure Of (ops:Array Oper) (listed:Array Bool) (pre:List Nat):Prop where
 size:listed.size=ops.size
 mem: ∀i,i<ops.size→(listed.getD i true=true↔i∈pre)
theorem Of.set {listed:Array Bool} {pre:List Nat} {x:Nat} (h:Of ops listed pre) (hx:x<ops.size):Of ops (listed.setIfInBounds x true) (x::pre):=by
 refine ⟨by simpa using h.size,fun i hi=> ?_⟩
 by_cases QT:x=i
 ·subst QT
  have:x<listed.size:=by rw [h.size];exact hx
  simp [this]
 ·rw [getD_set_ne true QT,h.mem i hi]
  simp only [List.mem_cons]
  exact ⟨.inr,fun hh=>hh.resolve_left (fun he=>QT he.symm)⟩
theorem Of.uT {listed:Array Bool} {pre:List Nat} {i:Nat} (h:Of ops listed pre) (hi:i<ops.size):listed.getD i true=false↔i∉pre:=by
 rw [←h.mem i hi];cases listed.getD i true<;>simp
theorem Of.done {listed:Array Bool} {pre:List Nat} {i:Nat} (h:Of ops listed pre) (hi:i<ops.size):listed.getD i false=true↔i∈pre:=by
 rw [←h.mem i hi]
 have hl:i<listed.size:=by rw [h.size];exact hi
 simp [hl]
theorem qZ: ∀(rest pre:List Nat),oo c ops.toList pre rest=true→ ∀z∈rest,z∉pre:=by
 intro rest
 induction rest with
 |nil=>intro pre _ z hz;cases hz
 |cons y rest ihr=>
  intro pre hd z hz
  simp only [oo] at hd
  cases hy:ops.toList[y]? with
  |none=>simp [hy] at hd
  |some oy=>
   simp only [hy,Bool.and_eq_true,Bool.not_eq_true'] at hd
   rcases List.mem_cons.1 hz with rfl|hz
   ·rw [←aW,hd.1.1.1.2];simp
   ·exact fun hzp=>ihr (y::pre) hd.2 z hz (by simp [hzp])
theorem Br {o:Oper} {x:Nat}: ∀(rest D0:List Nat),mi c ops.toList o D0 rest=true→(∀y,y∈D0→y≠x→ ∃p,ops[y]? =some p∧ ∃e∈p.after,Region.binds .any e=true∧e.on∈D0)→
 ∃D:List Nat,(∀y∈D0,y∈D)∧(∀y∈D,y∈D0∨y∈rest)∧(∀j oj,j∈D→j≠x→ops[j]? =some oj→ ∃e∈oj.after,Region.binds .any e=true∧e.on∈D)∧
  (∀y∈rest,y∉D→ ∃p,ops[y]? =some p∧o.apart ops p=true∧(fX c o=true→still c o=false→(MC c p||sQ o p)=true)):=by
 intro rest
 induction rest with
 |nil=>
  intro D0 _ h0
  refine ⟨D0,fun y hy=>hy,fun y hy=> .inl hy,fun j oj hj cm ho=> ?_,fun y hy=>by cases hy⟩
  obtain ⟨p,hp,he⟩:=h0 j hj cm
  rw [ho] at hp;cases hp;exact he
 |cons y rest ih=>
  intro D0 h h0
  simp only [mi] at h
  cases hy:ops.toList[y]? with
  |none=>simp [hy] at h
  |some p=>
   simp only [hy] at h
   have hy':ops[y]? =some p:=by simpa using hy
   cases he:tz p (aV D0) with
   |true=>
    simp only [he,cond_true] at h
    obtain ⟨D,D1,D2,D3,D4⟩:=ih (y::D0) h (by
     intro z hz cm
     rcases List.mem_cons.1 hz with rfl|hz
     ·unfold tz at he
      obtain ⟨ed,QU,hb⟩:=List.any_eq_true.1 he
      simp only [Bool.and_eq_true,oN] at hb
      exact ⟨p,hy',ed,by simpa using QU,hb.1,by simp [(aW _ _).1 hb.2]⟩
     ·obtain ⟨q,hq,ed,h1,h2,h3⟩:=h0 z hz cm
      exact ⟨q,hq,ed,h1,h2,by simp [h3]⟩)
    refine ⟨D,fun z hz=>D1 z (by simp [hz]),fun z hz=> ?_,D3,fun z hz ZG=> ?_⟩
    ·rcases D2 z hz with h1|h1
     ·rcases List.mem_cons.1 h1 with h1|h1
      ·exact .inr (by simp [h1])
      ·exact .inl h1
     ·exact .inr (by simp [h1])
    ·rcases List.mem_cons.1 hz with rfl|hz
     ·exact absurd (D1 z (by simp)) ZG
     ·exact D4 z hz ZG
   |false=>
    simp only [he,cond_false,Bool.and_eq_true,Bool.or_eq_true,Bool.not_eq_true'] at h
    obtain ⟨⟨h1,h2⟩,h3⟩:=h
    obtain ⟨D,D1,D2,D3,D4⟩:=ih D0 h3 h0
    refine ⟨D,D1,fun z hz=>(D2 z hz).imp id (fun h=>by simp [h]),D3,fun z hz ZG=> ?_⟩
    rcases List.mem_cons.1 hz with rfl|hz
    ·refine ⟨p,hy',r7 h1,fun hl hs=> ?_⟩
     rcases h2 with ((h2|h2)|h2)|h2
     ·rw [hl] at h2;cases h2
     ·simp [h2]
     ·rw [hs] at h2;cases h2
     ·simp [h2]
    ·exact D4 z hz ZG
def aX.outs (Z:aX) (bs:List Nat):aX:={Z with In:=fun b=>Z.In b∧b∉bs,Pr:=fun b=>Z.Pr b∧b∉bs}
theorem bn.xx {Z Z':aX} {e:Env} {st:St} {a:Act} {w:World} (h:bn c Z e st a w) (hI: ∀b,Z.In b→Z'.In b) (hP: ∀b,Z.Pr b→Z'.Pr b) (h1:Z'.bA=Z.bA) (h2:Z'.bL=Z.bL) (h3:Z'.T=Z.T) (h4:Z'.WC=Z.WC):bn c Z' e st a w:=by
 refine ⟨by rw [h1,h2,h3];exact h.defers,h.size,h.m,h.key,h.nodup,fun t=> ?_,h.root,fun f o ho=> ?_,h.bb,h.bf,h.ff,h.jb,fun b hb=>hI b (h.bH b hb)⟩
 ·have hs:=h.slot t
  generalize ak st.fr t=s at hs
  cases s<;>simp only [bu] at hs⊢ <;>first|exact hs|skip
  exact ⟨⟨hs.1.1,fun hp=>by rw [h1,h3];exact hs.1.2 hp⟩,⟨by rcases hs.2.bH with ⟨x,y⟩|x;exact .inl ⟨by rw [h1];exact x,hP _ y⟩;exact .inr (hI _ x),hs.2.obj,hs.2.free⟩⟩
 ·obtain ⟨I,cells,g1,g2,g3,g4,g5⟩:=(h.dS f o ho).row
  refine ⟨I,cells,g1,g2,g3,g4,fun aM hb=> ?_⟩
  obtain ⟨k1,k2,k3⟩:=g5 aM hb
  refine ⟨?_,k2,fun hc hz j hj=>k3 (by have hc:f∈Z'.bL:=hc;rw [h2] at hc;exact hc) hz j hj⟩
  rcases k1 with ⟨x,y⟩|x
  ·exact .inl ⟨by rw [h2];exact x,hP _ y⟩
  ·exact .inr (hI _ x)
theorem bn.narrow {e:Env} {st:St} {a:Act} {w w':World} {bs:List Nat} (h:bn c (Z.outs bs) e st a w) (g:cy w w') (hs:w.heap.size<w'.heap.size):bn c (Z.outs (w.heap.size::bs)) e st a w':=by
 have h':=h.grow g
 have qo: ∀b,b<w.heap.size→(Z.outs bs).In b→(Z.outs (w.heap.size::bs)).In b:=fun b hb hi=>⟨hi.1,by simp only [List.mem_cons,not_or];exact ⟨by omega,hi.2⟩⟩
 have Mb: ∀b,b<w.heap.size→(Z.outs bs).Pr b→(Z.outs (w.heap.size::bs)).Pr b:=fun b hb hi=>⟨hi.1,by simp only [List.mem_cons,not_or];exact ⟨by omega,hi.2⟩⟩
 refine ⟨h'.defers,h'.size,h'.m,h'.key,h'.nodup,fun t=> ?_,h'.root,fun f o ho=> ?_,h'.bb,h'.bf,h'.ff,h'.jb,fun b hb=> ?_⟩
 ·have hs:=h.slot t
  have rT:=h'.slot t
  generalize ak st.fr t=s at hs rT
  cases s<;>simp only [bu] at hs rT⊢ <;>first|exact rT|skip
  obtain ⟨o2,k1,_⟩:=hs.2.obj
  have hl:=aN k1
  exact ⟨rT.1,⟨by rcases rT.2.bH with ⟨x,y⟩|x;exact .inl ⟨x,Mb _ hl y⟩;exact .inr (qo _ hl x),rT.2.obj,rT.2.free⟩⟩
 ·obtain ⟨I,cells,g1,g2,g3,g4,g5⟩:=(h'.dS f o ho).row
  refine ⟨I,cells,g1,g2,g3,g4,fun aM hb=> ?_⟩
  obtain ⟨k1,k2,k3⟩:=g5 aM hb
  refine ⟨?_,k2,k3⟩
  have hl:aM<w.heap.size:=by
   obtain ⟨I',DB,l1,l2,l3,l4,l5⟩:=(h.dS f o ho).row
   rcases l3.2 with ⟨hv,_⟩|⟨gg,cap,c9,hv,_,hg,_⟩
   ·rw [hv] at hb;simp [Value.ownBlock] at hb
   ·rw [hv] at hb
    simp only [Value.ownBlock,Option.some.injEq] at hb
    have:=aN hg
    omega
  rcases k1 with ⟨x,y⟩|x
  ·exact .inl ⟨x,Mb _ hl y⟩
  ·exact .inr (qo _ hl x)
 ·refine ⟨(h.bH b (by omega)).1,?_⟩
  simp only [List.mem_cons,not_or]
  exact ⟨by omega,(h.bH b (by omega)).2⟩
def QV (b:Nat):Value:= .pointer (some ⟨b,0,none⟩)
def oO (ops:Array Oper) (i:Nat):Option Nat:=match ops[i]? with
 |some o=>o.dst
 |none=>none
def n4 (ops:Array Oper):List (Nat×Nat)→Act→Act
 |[],a=>a
 |p::r,a=>(n4 ops r a).put (oO ops p.1) (QV p.2)
structure QW (c:Ctx) (Z:aX) (ops:Array Oper) (e:Env) (w:World) (p:Nat×Nat):Prop where
 row: ∃o t I d arr T,ops[p.1]? =some o∧E8 o=true∧o.op= .alloc t∧c.tv t=some I∧o.dst=some d∧w.heap[p.2]? =some (.cells arr T (0,0))∧ ∀e':Env,ap e' arr.toList I.zero
 free: ∀off,e.φ p.2 off=none
 bH:Z.In p.2
theorem r8 {o:Oper} (h:E8 o=true): ∃t d,o.op= .alloc t∧o.dst=some d∧o.guard=none∧ ∀e∈o.after,Region.binds .any e=false:=by
 unfold E8 at h
 split at h
 ·rename_i t d h1 h2 h3
  refine ⟨t,d,h1,h2,h3,fun e he=> ?_⟩
  have:=List.all_eq_true.1 h e (by simpa using he)
  simpa [oN] using this
 ·cases h
theorem HW {t:TypeId} {I:TI} (hI:c.tv t=some I) (hT:fI P c.ti): ∃i z,P.info? t=some i∧i.zero=some z∧ ∀e:Env,ap e z.cells.toList I.zero:=by
 obtain ⟨jy,hc⟩:=bl hI
 obtain ⟨d,i,h1,h2,h3,h4⟩:=hT t I jy
 suffices hz: ∃z,i.zero=some z∧ ∀e:Env,ap e z.cells.toList I.zero by
  obtain ⟨z,h5,h6⟩:=hz
  exact ⟨i,z,h2,h5,h6⟩
 cases d<;>simp only [mn] at h4
 case struct fs=>obtain ⟨_,_,_,_,_,_,cs,hz,hl,_⟩:=h4;exact ⟨_,hz,fun e=>by simpa [Value.cells] using fY hl⟩
 case tuple ts=>exact absurd hc h4.2.1
 case slice el=>obtain ⟨_,_,_,_,_,hz,hl,_⟩:=h4;exact ⟨_,hz,fun e=>by rw [hl];exact ⟨[.slice none 0 0],[],rfl,rfl,rfl⟩⟩
 case array n el=>obtain ⟨_,_,_,_,_,_,_,hl,hz⟩:=h4;exact ⟨_,hz,fun e=>by rw [hl];exact ⟨aT fm.zero,[],by simp [Value.cells],rfl,rfl⟩⟩
 case bool=>obtain ⟨_,_,_,_,hl,hz⟩:=h4;exact ⟨_,hz,fun e=>by rw [hl];exact ⟨[.bool false],[],rfl,⟨rfl,.b _⟩,rfl⟩⟩
 case int k=>obtain ⟨_,_,_,_,hl,hz⟩:=h4;exact ⟨_,hz,fun e=>by rw [hl];exact ⟨[.int k 0],[],rfl,⟨rfl,.i _ _⟩,rfl⟩⟩
 case string=>
  obtain ⟨_,_,_,_,hl,b,hz,hb⟩:=h4
  refine ⟨_,hz,fun e=>by rw [hl];refine ⟨[.string b],[],rfl,⟨rfl,?_⟩,rfl⟩;rw [←hb];exact .s b⟩
 all_goals
  obtain ⟨_,_,_,_,v,hz,hv,hl⟩:=h4
  refine ⟨v,hz,fun e=> ?_⟩
  have:v.cells.toList=[v]:=by cases v<;>simp_all [Value.cells,Value.oneCell']
  rw [this];exact fY hl
theorem xy {o:Oper} (hs: ∀cs b,o.op≠ .select cs b) (a:Act): ∀(pd:List (Nat×Nat)),(∀p∈pd,∀d,oO ops p.1=some d→d∉o.looksAt ops)→
 execOp (n4 ops pd a).eval o=execOp a.eval o∧Region.wanted o (yielded ops (n4 ops pd a).tmps)=Region.wanted o (yielded ops a.tmps)
 |[],_=>⟨rfl,rfl⟩
 |p::r,h=>by
  obtain ⟨h1,h2⟩:=xy hs a r (fun q hq=>h q (by simp [hq]))
  have hp:=h p (by simp)
  exact ⟨(execOp_put o hs _ _ _ hp).trans h1,(wanted_put o _ _ _ hp).trans h2⟩
theorem uU (a:Act) (y:Option Nat) (v:Value): ∀(pd:List (Nat×Nat)),(∀p∈pd,∀d,oO ops p.1=some d→y≠some d)→(n4 ops pd a).put y v=n4 ops pd (a.put y v)
 |[],_=>rfl
 |p::r,h=>by
  simp only [n4]
  rw [Act.put_comm _ _ _ (fun d hd=>h p (by simp) d hd),uU a y v r (fun q hq=>h q (by simp [hq]))]
theorem QX {j:Nat} {oj:Oper} {x:Option Nat} {v:Value} (hj:ops[j]? =some oj) (h1: ∀d,x=some d→d∉oj.looksAt ops) (h2: ∀d,x=some d→oj.dst≠some d)
 (Wc: ∀cs b,oj.op≠ .select cs b) {K:Act→World→Prop} {a:Act} {w:World} (h:wpOp P ops (nb N) j K a w):
 wpOp P ops (nb N) j (fun a' w'=> ∃XR,a'=XR.put x v∧K XR w') (a.put x v) w:=by
 unfold wpOp at *
 simp only [hj] at *
 rw [wanted_put oj a x v h1]
 split
 ·rename_i hw
  simp only [hw,if_true] at h
  rcases h with h|⟨XP,Od⟩
  case inr=>obtain ⟨_,_,hf⟩:=Od;exact hf.elim
  refine .inl ?_
  unfold Oper.wp at *
  rw [execOp_put oj Wc a x v h1]
  generalize (execOp a.eval oj).run P w=r at *
  cases r with
  |ok n w'=>
   cases n<;>simp only [Oper.upon] at h⊢
   case value u=>exact ⟨_,Act.put_comm a v u h2,h⟩
   case skip=>exact ⟨_,Act.put_comm a v undef h2,h⟩
   case defer d=>
    refine ⟨{a.put oj.dst undef with defers:=d::(a.put oj.dst undef).defers},?_,by simpa [Act.put_defers] using h⟩
    have:=Act.put_comm a v undef h2
    cases x<;>cases hd:oj.dst<;>simp_all [Act.put]
   case enter f args=>
    refine Calls.mono h fun y rQ he=> ?_
    cases y with
    |returned u=>exact ⟨_,Act.put_comm a v u h2,he⟩
    |panicked c=>exact he
    |outgrown=>exact he
   case row row args=>exact Rows.mono h fun u rQ he=>⟨_,Act.put_comm a v u h2,he⟩
  |halt y w'=>
   cases y<;>simp only [Oper.upon] at h⊢
   case panic u=>exact h
 ·rename_i hw
  simp only [hw] at h
  exact ⟨_,Act.put_comm a v undef h2,h⟩
theorem JC {j:Nat} {oj:Oper} (hj:ops[j]? =some oj) (Wc: ∀cs b,oj.op≠ .select cs b) {K:Act→World→Prop} {a:Act} {w:World} (h:wpOp P ops (nb N) j K a w): ∀(pd:List (Nat×Nat)),
 (∀p∈pd,∀d,oO ops p.1=some d→d∉oj.looksAt ops∧oj.dst≠some d)→wpOp P ops (nb N) j (fun a' w'=> ∃XR,a'=n4 ops pd XR∧K XR w') (n4 ops pd a) w
 |[],_=>wpOp_mono (fun a' w' hk=>⟨a',rfl,hk⟩) h
 |p::r,hp=>by
  have h1:=JC hj Wc h r (fun q hq=>hp q (by simp [hq]))
  have h2:=QX (v:=QV p.2) hj (fun d hd=>(hp p (by simp) d hd).1) (fun d hd=>(hp p (by simp) d hd).2) Wc h1
  refine wpOp_mono ?_ h2
  rintro a' w' ⟨a1,rfl,a2,rfl,hk⟩
  exact ⟨a2,rfl,hk⟩
theorem wz: ∀{l m:List Nat},l.Nodup→(∀x∈l,x∈m)→l.length≤m.length
 |[],m,_,_=>Nat.zero_le _
 |x::l,m,hn,hs=>by
  have hn:=List.nodup_cons.1 hn
  have h1:l.length≤(m.erase x).length:=wz hn.2 fun y hy=>(List.mem_erase_of_ne (fun he=>hn.1 (by rw [←he];exact hy))).2 (hs y (by simp [hy]))
  have h2:=List.length_erase_of_mem (hs x (by simp))
  have h3:0<m.length:=List.length_pos_of_mem (hs x (by simp))
  simp only [List.length_cons];omega
theorem FP {x b:Nat} {o:Oper} (hdo:oO ops x=o.dst) (a:Act) (pr:List (Nat×Nat)): ∀(pl:List (Nat×Nat)),(∀p∈pl++pr,∀dd,oO ops p.1=some dd→o.dst≠some dd)→n4 ops (pl++(x,b)::pr) a=n4 ops (pl++pr) (a.put o.dst (QV b))
 |[],h=>by
  simp only [List.nil_append,n4,hdo]
  exact uU a o.dst (QV b) pr (fun p hp=>h p (by simp [hp]))
 |q::pl,h=>by
  simp only [List.cons_append,n4]
  rw [FP hdo a pr pl (fun p hp=>h p (by simp only [List.cons_append,List.mem_cons];exact .inr hp))]
theorem Of.congr {listed:Array Bool} {l l':List Nat} (h:Of ops listed l) (he: ∀i,i∈l↔i∈l'):Of ops listed l':=⟨h.size,fun i hi=>by rw [h.mem i hi,he]⟩
theorem FQ {o:Oper}: ∀(rest D:List Nat),mi c ops.toList o D rest=true→ ∀y∈rest,∀p,ops[y]? =some p→E8 p=true→o.apart ops p=true:=by
 intro rest
 induction rest with
 |nil=>intro D _ y hy;cases hy
 |cons z rest ih=>
  intro D h y hy p hp vU
  simp only [mi] at h
  cases hz:ops.toList[z]? with
  |none=>simp [hz] at h
  |some q=>
   simp only [hz] at h
   cases he:tz q (aV D) with
   |true=>
    simp only [he,cond_true] at h
    rcases List.mem_cons.1 hy with rfl|hy
    ·exfalso
     have V4:ops[y]? =some q:=by simpa using hz
     rw [V4] at hp;cases hp
     obtain ⟨_,_,_,_,_,cm⟩:=r8 vU
     unfold tz at he
     obtain ⟨ed,QU,hb⟩:=List.any_eq_true.1 he
     simp only [Bool.and_eq_true,oN] at hb
     rw [cm ed (by simpa using QU)] at hb
     exact absurd hb.1 (by simp)
    ·exact ih _ h y hy p hp vU
   |false=>
    simp only [he,cond_false,Bool.and_eq_true] at h
    rcases List.mem_cons.1 hy with rfl|hy
    ·have V4:ops[y]? =some q:=by simpa using hz
     rw [V4] at hp;cases hp
     exact r7 h.1.1
    ·exact ih _ h.2 y hy p hp vU
theorem zH {o p:Oper} {y:Nat} (hp:ops[y]? =some p) (h:p.apart ops o=true∨o.apart ops p=true): ∀d,oO ops y=some d→d∉o.looksAt ops∧o.dst≠some d:=by
 intro d hd
 have hd:p.dst=some d:=by simpa [oO,hp] using hd
 rcases h with h|h
 ·obtain ⟨h1,h2,h3⟩:=Oper.apart_spec h
  exact ⟨h1 d hd,h2 d hd⟩
 ·obtain ⟨h1,h2,h3⟩:=Oper.apart_spec h
  exact ⟨h3 d hd,fun he=>h2 d he hd⟩
theorem QW.later {Z:aX} {bs:List Nat} {e e':Env} {w w':World} {p:Nat×Nat} (h:QW c Z ops e w p) (hb:p.2∈bs) (t:Trans (Z.outs bs).In e.φ w e'.φ w'):QW c Z ops e' w' p:=by
 obtain ⟨o,ty,I,d,arr,T,h1,h2,h3,h4,h5,h6,h7⟩:=h.row
 have hn: ¬(Z.outs bs).In p.2:=fun hh=>hh.2 hb
 exact ⟨⟨o,ty,I,d,arr,T,h1,h2,h3,h4,h5,by rw [t.heap _ hn (aN h6)];exact h6,h7⟩,fun off=>by rw [t.free _ off hn];exact h.free off,h.bH⟩
theorem Trans.wide {Z Z':Nat→Prop} {φ φ':Ph} {w w':World} (t:Trans Z φ w φ' w') (h: ∀b,Z b→Z' b):Trans Z' φ w φ' w':=
 ⟨t.ph,fun b hb hl=>t.heap b (fun hz=>hb (h b hz)) hl,fun b o hb=>t.free b o (fun hz=>hb (h b hz)),t.size,t.rest⟩
theorem QY (hG:Good P c) (FO: ∀(j:Nat) (o:Oper) cs b,ops[j]? =some o→o.op≠ .select cs b) {φ0:Ph} {w0:World} (hN: ∀a' w',Out c Z K r φ0 w0 a' w'→N a' w'):
 ∀(m:Nat) (rest pre:List Nat) (pd:List (Nat×Nat)) (l:List Oper) (listed:Array Bool) (e:Env) (st:St) (a:Act) (w:World),2 *rest.length-pd.length≤m→bn c (Z.outs (pd.map (·.2))) e st a w→pi c ops.toList l st K=some r→Trans Z.In φ0 w0 e.φ w→kz ops.toList rest=some l→
  oo c ops.toList pre rest=true→Of ops listed (pd.map (·.1)++pre)→(∀i,i<ops.size→i∈pre∨i∈rest)→(∀i∈pre,i<ops.size)→(∀p∈pd,p.1∈rest)→(pd.map (·.1)).Nodup→(pd.map (·.2)).Nodup→(∀p∈pd,QW c Z ops e w p)→
  pd.length≤rest.length→Bp P c ops N e.φ (rest.length-pd.length) listed (n4 ops pd a) w:=by
 intro m
 induction m with
 |zero=>
  intro rest pre pd l listed e st a w hm h hK ht hp hd hL jT Og Mb EN Dz L8 hle
  cases rest with
  |cons x rest=>simp only [List.length_cons] at hm hle;omega
  |nil=>
   cases pd with
   |cons p pd=>simp at hle
   |nil=>
    cases hp
    have h':bn c Z e st a w:=h.xx (fun b hb=>hb.1) (fun b hb=>hb.1) rfl rfl rfl rfl
    refine ⟨?_,hN a w ⟨e,st,h',ht,hK⟩⟩
    cases hr:Region.ready .any ops listed with
    |nil=>rfl
    |cons i is=>
     have hi:i∈Region.ready .any ops listed:=by rw [hr];simp
     obtain ⟨h1,o,ho,_⟩:=mem_ready.1 hi
     have cA:i<ops.size:=(Array.getElem?_eq_some_iff.1 ho).1
     exact absurd (by simpa using (jT i cA).resolve_right (by simp)) ((hL.uT cA).1 h1)
 |succ m ZH=>
  intro rest pre pd l listed e st a w hm h hK ht hp hd hL jT Og Mb EN Dz L8 hle
  cases rest with
  |nil=>
   cases pd with
   |cons p pd=>simp at hle
   |nil=>exact ZH [] pre [] l listed e st a w (by simp) h hK ht hp hd hL jT Og Mb EN Dz L8 hle
  |cons x rest=>
   simp only [kz] at hp
   cases Wd:ops.toList[x]? with
   |none=>simp [Wd] at hp
   |some o=>
    cases P4:kz ops.toList rest with
    |none=>simp [Wd,P4] at hp
    |some l'=>
     simp only [Wd,P4,Option.some.injEq] at hp
     subst hp
     have hx:ops[x]? =some o:=by simpa using Wd
     have Uc:x<ops.size:=(Array.getElem?_eq_some_iff.1 hx).1
     have hd0:=hd
     simp only [oo,Wd] at hd
     simp only [Bool.and_eq_true,Bool.not_eq_true'] at hd
     obtain ⟨⟨⟨⟨d1,d2⟩,d3⟩,d4⟩,d5⟩:=hd
     have SG:x∉pre:=by rw [←aW,d2];simp
     have abm:x∉rest:=by rw [←aW,d3];simp
     have JD: ∀i,i<ops.size→i∈x::pre∨i∈rest:=by
      intro i hi
      rcases jT i hi with h1|h1
      ·exact .inl (by simp [h1])
      ·rcases List.mem_cons.1 h1 with h1|h1
       ·exact .inl (by simp [h1])
       ·exact .inr h1
     have SH: ∀i∈x::pre,i<ops.size:=by
      intro i hi
      rcases List.mem_cons.1 hi with rfl|hi
      ·exact Uc
      ·exact Og i hi
     have Ud:=hK
     simp only [pi] at hK
     have Oh: ∀p∈pd,∃q,ops[p.1]? =some q∧E8 q=true:=fun p hp=>by
      obtain ⟨q,_,_,_,_,_,h1,h2,_⟩:=(L8 p hp).row
      exact ⟨q,h1,h2⟩
     unfold I6 at hK
     obtain ⟨bj,go,h',hK,hw⟩:=FC h hK
     have SI: ∀cs b,o.op≠ .select cs b:=fun cs b=>FO x o cs b hx
     by_cases ZI:x∈pd.map (·.1)
     ·
      obtain ⟨⟨x',b⟩,ZJ,hxe⟩:=List.mem_map.1 ZI
      have hxe:x'=x:=hxe
      subst hxe
      obtain ⟨o',t,I,d,arr,T,k1,k2,k3,k4,k5,k6,k7⟩:=(L8 _ ZJ).row
      rw [hx] at k1;cases k1
      obtain ⟨_,_,_,_,hgn,cm⟩:=r8 k2
      have QZ:go=true:=by
       rw [←hw];simp [Region.wanted,hgn]
      subst QZ
      have Fb:(j6 o&&!gD c o)=false:=by simp [j6,k3]
      simp only [Fb,cond_false] at d4
      obtain ⟨pl,pr,rfl⟩:=List.append_of_mem ZJ
      have hbn:b∉(pl++pr).map (·.2):=by
       have:((pl++(x',b)::pr).map (·.2)).Nodup:=Dz
       simp only [List.map_append,List.map_cons,List.nodup_append,List.nodup_cons,List.mem_cons] at this
       simp only [List.map_append,List.mem_append,not_or]
       exact ⟨fun hm=>this.2.2 b hm b (by simp) rfl,this.2.1.1⟩
      have hxn:x'∉(pl++pr).map (·.1):=by
       have:((pl++(x',b)::pr).map (·.1)).Nodup:=EN
       simp only [List.map_append,List.map_cons,List.nodup_append,List.nodup_cons,List.mem_cons] at this
       simp only [List.map_append,List.mem_append,not_or]
       exact ⟨fun hm=>this.2.2 x' hm x' (by simp) rfl,this.2.1.1⟩
      have FR: ∀p∈pl++pr,p∈pl++(x',b)::pr:=fun p hp=>by
       simp only [List.mem_append,List.mem_cons] at hp⊢
       rcases hp with hp|hp
       ·exact .inl hp
       ·exact .inr (.inr hp)
      have j9:bn c (Z.outs ((pl++pr).map (·.2))) e bj a w:=by
       refine h'.xx (fun u hu=>⟨hu.1,fun hm=>hu.2 ?_⟩) (fun u hu=>⟨hu.1,fun hm=>hu.2 ?_⟩) rfl rfl rfl rfl<;>
       ·obtain ⟨p,hp,rfl⟩:=List.mem_map.1 hm
        exact List.mem_map.2 ⟨p,FR p hp,rfl⟩
      have Q0:b∈(pl++(x',b)::pr).map (·.2):=by simp
      have lH:j8 (Z.outs ((pl++pr).map (·.2))) e w bj (QV b) (.box I.zero):=by
       refine ⟨b,by rw [nS (k7 e).qn];rfl,⟨⟨(L8 _ ZJ).bH,hbn⟩,⟨_,k6,rfl,k7 e⟩,(L8 _ ZJ).free⟩,fun t' dp tE sU=> ?_,fun f o' tC sU=> ?_⟩
       ·have hs:=h'.slot t'
        rw [tE] at hs
        rcases hs.2.bH with ⟨_,u⟩|u
        ·exact u.2 (by rw [sU];exact Q0)
        ·exact u.2 (by rw [sU];exact Q0)
       ·obtain ⟨I',cells,g1,g2,g3,g4,g5⟩:=(h'.dS f o' tC).row
        rcases (g5 b sU).1 with ⟨_,u⟩|u
        ·exact u.2 Q0
        ·exact u.2 Q0
      simp only [cond_true,VW,k3,k4] at hK
      obtain ⟨e2,cr,j1,j2,j3⟩:=bW j9 lH hK
      have Ue:n4 ops (pl++(x',b)::pr) a=n4 ops (pl++pr) (a.put o.dst (QV b)):=by
       have ox: ∀p∈pl++pr,∀dd,oO ops p.1=some dd→o.dst≠some dd:=by
        intro p hp dd hdd
        obtain ⟨q,hq,vU⟩:=Oh p (FR p hp)
        have HX:p.1∈rest:=by
         rcases List.mem_cons.1 (Mb p (FR p hp)) with he|he
         ·exact absurd (List.mem_map.2 ⟨p,hp,he⟩) hxn
         ·exact he
        have:=List.all_eq_true.1 d4 p.1 HX
        have Uf:ops.toList[p.1]? =some q:=by simpa using hq
        simp only [Uf,vU,cond_true,Bool.and_eq_true] at this
        exact (zH hq (.inl (r7 this.1)) dd hdd).2
       exact FP (by simp [oO,hx]) a pr pl ox
      rw [Ue,←j3]
      have hlen:(x'::rest).length-(pl++(x',b)::pr).length=rest.length-(pl++pr).length:=by simp only [List.length_cons,List.length_append];omega
      rw [hlen]
      refine ZH rest (x'::pre) (pl++pr) l' listed e2 cr _ w ?_ j1 j2 (by rw [j3];exact ht) P4 d5 ?_ JD SH ?_ ?_ ?_ ?_ ?_
      ·simp only [List.length_cons,List.length_append] at hm⊢;omega
      ·refine hL.congr (fun i=> ?_)
       simp only [List.map_append,List.map_cons,List.mem_append,List.mem_cons]
       constructor
       ·rintro ((h1|h1|h1)|h1)
        ·exact .inl (.inl h1)
        ·exact .inr (.inl h1)
        ·exact .inl (.inr h1)
        ·exact .inr (.inr h1)
       ·rintro ((h1|h1)|h1|h1)
        ·exact .inl (.inl h1)
        ·exact .inl (.inr (.inr h1))
        ·exact .inl (.inr (.inl h1))
        ·exact .inr h1
      ·intro p hp
       rcases List.mem_cons.1 (Mb p (FR p hp)) with he|he
       ·exact absurd (List.mem_map.2 ⟨p,hp,he⟩) hxn
       ·exact he
      ·have:((pl++(x',b)::pr).map (·.1)).Nodup:=EN
       refine List.Nodup.sublist ?_ this
       exact List.Sublist.map _ (List.Sublist.append_left (List.sublist_cons_self _ _) pl)
      ·have:((pl++(x',b)::pr).map (·.2)).Nodup:=Dz
       refine List.Nodup.sublist ?_ this
       exact List.Sublist.map _ (List.Sublist.append_left (List.sublist_cons_self _ _) pl)
      ·intro p hp
       obtain ⟨q1,q2,q3⟩:=L8 p (FR p hp)
       exact ⟨q1,fun off=>by rw [j3];exact q2 off,q3⟩
      ·simp only [List.length_cons,List.length_append] at hle⊢;omega
     ·have HX: ∀p∈pd,p.1∈rest:=fun p hp=>by
       rcases List.mem_cons.1 (Mb p hp) with he|he
       ·exact absurd (List.mem_map.2 ⟨p,hp,he⟩) ZI
       ·exact he
      have W7:pd.length≤rest.length:=by
       have h1:(pd.map (·.1)).length≤rest.length:=wz EN (fun i hi=>by obtain ⟨p,hp,rfl⟩:=List.mem_map.1 hi;exact HX p hp)
       simpa using h1
      have XS:(x::rest).length-pd.length=(rest.length-pd.length)+1:=by simp only [List.length_cons];omega
      rw [XS]
      have TX:x∉pd.map (·.1)++pre:=by simp only [List.mem_append,not_or];exact ⟨ZI,SG⟩
      have DX:x∈Region.ready .any ops listed:=by
       refine mem_ready.2 ⟨(hL.uT Uc).2 TX,o,hx,fun ed QU hb=> ?_⟩
       have:=List.all_eq_true.1 d1 ed (by simpa using QU)
       simp only [oN,hb,Bool.not_true,Bool.false_or] at this
       have hm:=(aW _ _).1 this
       exact (hL.done (Og _ hm)).2 (by simp [hm])
      have next: ∀(e':Env) (cr:St) (a':Act) (w':World),bn c (Z.outs (pd.map (·.2))) e' cr a' w'→Trans (Z.outs (pd.map (·.2))).In e.φ w e'.φ w'→pi c ops.toList l' cr K=some r→Bp P c ops N e.φ (rest.length-pd.length) (listed.setIfInBounds x true) (n4 ops pd a') w':=by
       intro e' cr a' w' h1 t1 fU
       refine K4 t1.ph _ _ _ _ ?_
       refine ZH rest (x::pre) pd l' _ e' cr a' w' ?_ h1 fU (ht.trans (t1.wide fun b hb=>hb.1)) P4 d5 ((hL.set Uc).congr fun i=> ?_) JD SH HX EN Dz (fun p hp=>(L8 p hp).later (List.mem_map.2 ⟨p,hp,rfl⟩) t1) W7
       ·simp only [List.length_cons] at hm;omega
       ·simp only [List.mem_cons,List.mem_append]
        constructor
        ·rintro (h1|h1|h1)
         ·exact .inr (.inl h1)
         ·exact .inl h1
         ·exact .inr (.inr h1)
        ·rintro (h1|h1|h1)
         ·exact .inr (.inl h1)
         ·exact .inl h1
         ·exact .inr (.inr h1)
      cases Fb:j6 o&&!gD c o with
      |true=>
       simp only [Fb,cond_true] at d4
       have ox: ∀p∈pd,∀dd,oO ops p.1=some dd→dd∉o.looksAt ops∧o.dst≠some dd:=by
        intro p hp
        obtain ⟨q,hq,vU⟩:=Oh p hp
        exact zH hq (.inr (FQ rest [x] d4 p.1 (HX p hp) q hq vU))
       obtain ⟨hex,Ub⟩:=xy SI a pd (fun p hp d hd=>(ox p hp d hd).1)
       obtain ⟨D,D1,D2,D3,D4⟩:=Br rest [x] d4 (fun y hy cm=>absurd (by simpa using hy) cm)
       have lr: ∀j oj,ops[j]? =some oj→j∉D→j≠x→listed.getD j true=false→o.apart ops oj=true∧(fX c o=true→still c o=false→pJ c o ops j=true):=by
        intro j oj SE ZF hjx QR
        have XT:j<ops.size:=(Array.getElem?_eq_some_iff.1 SE).1
        have hjr:j∈rest:=by
         rcases JD j XT with h1|h1
         ·rcases List.mem_cons.1 h1 with h1|h1
          ·exact absurd h1 hjx
          ·exact absurd (by simp [h1]) ((hL.uT XT).1 QR)
         ·exact h1
        obtain ⟨p,Tq,GY,hp3⟩:=D4 j hjr ZF
        rw [SE] at Tq
        cases Tq
        exact ⟨GY,fun hl hs=>by simp [pJ,SE,hp3 hl hs]⟩
       have Bq: ∀d∈D,listed.getD d false=false:=by
        have abo: ∀p∈pd,p.1∉D:=by
         intro p hp hpD
         obtain ⟨q,hq,vU⟩:=Oh p hp
         obtain ⟨ed,QU,hb,_⟩:=D3 p.1 q hpD (fun he=>ZI (List.mem_map.2 ⟨p,hp,he⟩)) hq
         obtain ⟨_,_,_,_,_,cm⟩:=r8 vU
         rw [cm ed QU] at hb;cases hb
        intro d hd
        have WD:d∉pd.map (·.1)++pre:=by
         simp only [List.mem_append,not_or]
         constructor
         ·intro hm
          obtain ⟨p,hp,rfl⟩:=List.mem_map.1 hm
          exact abo p hp hd
         ·rcases D2 d hd with h1|h1
          ·have h1:d=x:=by simpa using h1
           rw [h1];exact SG
          ·exact fun hp=>qZ rest (x::pre) d5 d h1 (by simp [hp])
        by_cases P2:d<ops.size
        ·cases hg:listed.getD d false with
         |false=>rfl
         |true=>exact absurd ((hL.done P2).1 hg) WD
        ·have hl: ¬d<listed.size:=by rw [hL.size];exact P2
         simp [hl]
       cases go with
       |true=>
        simp only [cond_true] at hK
        obtain ⟨v,hv,e2,cr,k1,k2,k3⟩:=(HL (Q:=nb N) hG h' hK).aaZ (by simp only [Bool.and_eq_true] at Fb;exact Fb.1) (by simp only [Bool.and_eq_true,Bool.not_eq_true'] at Fb;exact Fb.2)
        refine zG D3 hx FO (rest.length-pd.length) listed _ w lr Bq DX (.inl ⟨by rw [Ub];exact hw,fun w' hg=>by rw [hex];exact hv w' hg⟩) h.jb ?_
        rw [uU a o.dst v pd (fun p hp d hd=>(ox p hp d hd).2)]
        exact next e2 cr _ w k1 k2 k3
       |false=>
        simp only [cond_false] at hK
        obtain ⟨e2,cr,k1,k2,k3⟩:=bW (v:=undef) (s:= .skip) h' ⟨rfl,trivial⟩ hK
        refine zG D3 hx FO (rest.length-pd.length) listed _ w lr Bq DX (.inr ⟨by rw [Ub];exact hw,rfl⟩) h.jb ?_
        rw [uU a o.dst undef pd (fun p hp d hd=>(ox p hp d hd).2)]
        exact next e2 cr _ w k1 (by rw [k3];exact .refl _ _ _) k2
      |false=>
       simp only [Fb,cond_false] at d4
       have ox: ∀p∈pd,∀dd,oO ops p.1=some dd→dd∉o.looksAt ops∧o.dst≠some dd:=by
        intro p hp
        obtain ⟨q,hq,vU⟩:=Oh p hp
        have:=List.all_eq_true.1 d4 p.1 (HX p hp)
        have Uf:ops.toList[p.1]? =some q:=by simpa using hq
        simp only [Uf,vU,cond_true,Bool.and_eq_true] at this
        exact zH hq (.inl (r7 this.1))
       refine ⟨fun Mg=>(by rw [Mg] at DX;cases DX),fun i hi=> ?_⟩
       obtain ⟨abp,oi,Q1,Ug⟩:=mem_ready.1 hi
       have Uh:i<ops.size:=(Array.getElem?_eq_some_iff.1 Q1).1
       have qo:=(hL.uT Uh).1 abp
       simp only [List.mem_append,not_or] at qo
       by_cases QT:i=x
       ·subst QT
        rw [hx] at Q1;cases Q1
        have j9:wpOp P ops (nb N) i (fun a' w'=>(∀oi,pJ c oi ops i=true→dh c oi w w')∧ ∃e2 cr,bn c (Z.outs (pd.map (·.2))) e2 cr a' w'∧Trans (Z.outs (pd.map (·.2))).In e.φ w e2.φ w'∧pi c ops.toList l' cr K=some r) a w:=by
         unfold wpOp
         simp only [hx]
         rw [hw]
         cases go with
         |true=>
          simp only [cond_true] at hK
          simp only [if_true]
          left
          have hd:=HL (Q:=nb N) hG h' hK
          cases G3:MC c o with
          |true=>
           simp only [MC,Bool.or_eq_true] at G3
           refine Oper.wp_mono ?_ (hd.aa0 G3)
           rintro a' w' ⟨hg,e2,cr,k1,k2,k3⟩
           exact ⟨fun _ _=>hg.for,e2,cr,k1,k2,k3⟩
          |false=>
           by_cases KG: ∃oi,sQ oi o=true
           ·obtain ⟨oi0,KG⟩:=KG
            refine Oper.wp_mono ?_ (Xo (Q:=nb N) hG h' hK KG)
            rintro a' w' ⟨hg,e2,cr,k1,k2,k3⟩
            refine ⟨fun oi hh=> ?_,e2,cr,k1,k2,k3⟩
            have Q1:sQ oi o=true:=by simpa [pJ,hx,G3] using hh
            exact HV KG Q1 hg
           ·refine Oper.wp_mono ?_ hd.wp
            rintro a' w' ⟨e2,cr,k1,k2,k3⟩
            exact ⟨fun oi hh=>absurd ⟨oi,by simpa [pJ,hx,G3] using hh⟩ KG,e2,cr,k1,k2,k3⟩
         |false=>
          simp only [cond_false] at hK
          simp only [Bool.false_eq_true,if_false]
          obtain ⟨e2,cr,k1,k2,k3⟩:=bW (v:=undef) (s:= .skip) h' ⟨rfl,trivial⟩ hK
          exact ⟨fun _ _=>(cy.refl w).for,e2,cr,k1,by rw [k3];exact .refl _ _ _,k2⟩
        refine wpOp_mono ?_ (JC hx SI j9 pd ox)
        rintro a' w' ⟨a2,rfl,hg,e2,cr,k1,k2,k3⟩
        exact ⟨⟨hg,fun b o v hv=>k1.jb b o v (k2.ph b o v hv)⟩,next e2 cr a2 w' k1 k2 k3⟩
       ·have hir:i∈rest:=by
         rcases JD i Uh with h1|h1
         ·rcases List.mem_cons.1 h1 with h1|h1
          ·exact absurd h1 QT
          ·exact absurd h1 qo.2
         ·exact h1
        have HY:=List.all_eq_true.1 d4 i hir
        have abr:ops.toList[i]? =some oi:=by simpa using Q1
        simp only [abr] at HY
        cases vU:E8 oi with
        |false=>
         exfalso
         simp only [vU,cond_false] at HY
         unfold tz at HY
         obtain ⟨ed,QU,hb⟩:=List.any_eq_true.1 HY
         simp only [Bool.and_eq_true,oN,Bool.or_eq_true,Bool.not_eq_true'] at hb
         obtain ⟨ov,oe⟩:=hb
         have FU:=Ug ed (by simpa using QU) ov
         have Cj:ed.on∉pd.map (·.1)++pre:=by
          rcases oe with oe|⟨oe,TF⟩
          ·rw [Nat.eq_of_beq_eq_true oe];exact TX
          ·simp only [List.mem_append,not_or]
           refine ⟨fun hm=> ?_,fun hp=>qZ rest (x::pre) d5 _ ((aW _ _).1 oe) (by simp [hp])⟩
           obtain ⟨p,hp,he⟩:=List.mem_map.1 hm
           obtain ⟨q,hq,hqa⟩:=Oh p hp
           have Uf:ops.toList[ed.on]? =some q:=by rw [←he];simpa using hq
           simp [Wy,Uf,hqa] at TF
         by_cases nU:ed.on<ops.size
         ·exact Cj ((hL.done nU).1 FU)
         ·have:listed.getD ed.on false=false:=by
           have hl: ¬ed.on<listed.size:=by rw [hL.size];exact nU
           simp [hl]
          rw [this] at FU;cases FU
        |true=>
         obtain ⟨t,d,q1,q2,q3,q4⟩:=r8 vU
         have hI: ∃I,c.tv t=some I:=by
          simp only [vU,cond_true,Bool.and_eq_true,Wx,q1] at HY
          cases htv:c.tv t with
          |none=>rw [htv] at HY;exact absurd HY.2 (by simp)
          |some I=>exact ⟨I,rfl⟩
         obtain ⟨I,hI⟩:=hI
         obtain ⟨inf,z,hz1,WG,hz3⟩:=HW hI hG.ti
         have hg:cy w (w.alloc (.cells z.cells t)):= .alloc w _ _
         unfold wpOp
         simp only [Q1]
         have Ub:Region.wanted oi (yielded ops (n4 ops pd a).tmps)=true:=by simp [Region.wanted,q3]
         simp only [Ub,if_true]
         left
         have bw:(execOp (n4 ops pd a).eval oi).run P w= .ok (.value (QV w.heap.size)) (w.alloc (.cells z.cells t)):=by
          simp [execOp,q1,Instr.alloc,zeroValue,typeInfo,hz1,WG,newVar,newRow,newObj,Sem.run,QV]
         unfold Oper.wp
         rw [bw]
         simp only [Oper.upon]
         refine ⟨⟨fun _ _=>hg.for,(h.grow hg).jb⟩,?_⟩
         have lh:w.heap.size<(w.alloc (.cells z.cells t)).heap.size:=by simp
         have abt: ∀p∈pd,p.2<w.heap.size:=fun p hp=>by
          obtain ⟨_,_,_,_,_,_,_,_,_,_,_,k6,_⟩:=(L8 p hp).row
          exact aN k6
         have Ue:(n4 ops pd a).put oi.dst (QV w.heap.size)=n4 ops ((i,w.heap.size)::pd) a:=by simp [n4,oO,Q1]
         rw [Ue]
         have cA:pd.length<rest.length:=by
          have h1:(i::pd.map (·.1)).length≤rest.length:=by
           refine wz (List.nodup_cons.2 ⟨qo.1,EN⟩) ?_
           intro j hj
           rcases List.mem_cons.1 hj with rfl|hj
           ·exact hir
           ·obtain ⟨p,hp,rfl⟩:=List.mem_map.1 hj;exact HX p hp
          simp only [List.length_cons,List.length_map] at h1;omega
         have sZ:rest.length-pd.length=(x::rest).length-((i,w.heap.size)::pd).length:=by simp only [List.length_cons];omega
         rw [sZ]
         refine ZH (x::rest) pre ((i,w.heap.size)::pd) (o::l') _ e st a _ ?_ (h.narrow hg lh) ?_ (ht.trans (hg.trans (fun b hb=>(h.bH b hb).1) _)) ?_ hd0 ?_ jT Og ?_ ?_ ?_ ?_ ?_
         ·simp only [List.length_cons] at hm⊢;omega
         ·exact Ud
         ·simp [kz,Wd,P4]
         ·refine (hL.set Uh).congr (fun j=> ?_)
          simp
         ·intro p hp
          rcases List.mem_cons.1 hp with rfl|hp
          ·exact List.mem_cons_of_mem _ hir
          ·exact Mb p hp
         ·exact List.nodup_cons.2 ⟨qo.1,EN⟩
         ·refine List.nodup_cons.2 ⟨fun hm=> ?_,Dz⟩
          obtain ⟨p,hp,he⟩:=List.mem_map.1 hm
          have:=abt p hp
          have he:p.2=w.heap.size:=he
          omega
         ·intro p hp
          rcases List.mem_cons.1 hp with rfl|hp
          ·refine ⟨⟨oi,t,I,d,z.cells,t,Q1,vU,q1,hI,q2,eB w _,hz3⟩,fun off=> ?_,(h.bH _ (Nat.le_refl _)).1⟩
           cases hp:e.φ w.heap.size off with
           |none=>rfl
           |some v=>
            have:=World.block_lt_of_cell? w _ (h.jb _ _ _ hp)
            simp at this
          ·obtain ⟨⟨o1,t1,I1,d1,abu,T1,k1,k2,k3,k4,k5,k6,k7⟩,q5,q6⟩:=L8 p hp
           exact ⟨⟨o1,t1,I1,d1,abu,T1,k1,k2,k3,k4,k5,by rw [hg.nT _ (aN k6)];exact k6,k7⟩,q5,q6⟩
         ·simp only [List.length_cons];omega
theorem FV (hG:Good P c) {ops:Array Oper} {l:List Oper} {ord:List Nat} (hd:tA c ops ord=true) (hp:kz ops.toList ord=some l) {Z:aX} {e:Env} {st:St} {a:Act} {w:World} {R:Type} {K:St→Option R} {r:R} (h:bn c Z e st a w) (hK:pi c ops.toList l st K=some r):
 wpAny P .any ops (nb fun a' w'=>Out c Z K r e.φ w a' w') ops.size (Array.replicate ops.size false) a {w with drawn:=w.drawn+1}:=by
 simp only [tA,Bool.and_eq_true] at hd
 obtain ⟨⟨⟨QD,Zp⟩,jT⟩,hd⟩:=hd
 have FO: ∀(j:Nat) (o:Oper) cs b,ops[j]? =some o→o.op≠ .select cs b:=by
  intro j o cs b ho he
  have:=List.all_eq_true.1 QD o (List.mem_of_getElem? (by simpa using ho:ops.toList[j]? =some o))
  simp [he] at this
 have SJ:cy w {w with drawn:=w.drawn+1}:=⟨Nat.le_refl _,fun _ _=>rfl,rfl,rfl,rfl,fun _=>rfl⟩
 ·refine Oc (c:=c) (φ:=e.φ) _ _ _ _ ?_
  have hlen:ord.length=ops.size:=by have:=Nat.eq_of_beq_eq_true Zp;simpa using this
  rw [←hlen]
  have h0:bn c (Z.outs []) e st a {w with drawn:=w.drawn+1}:=(h.grow SJ).xx (fun b hb=>⟨hb,by simp⟩) (fun b hb=>⟨hb,by simp⟩) rfl rfl rfl rfl
  refine QY hG FO (fun a' w' h=>h) (2 *ord.length) ord [] [] l _ e st a _ (by simp) h0 hK (SJ.trans h.bH e.φ) hp hd ⟨by simp [hlen],fun i hi=> ?_⟩ (fun i hi=> .inr ((aW _ _).1 (List.all_eq_true.1 jT i (by simpa using hi)))) (by simp) (by simp) (by simp) (by simp) (by simp) (by simp)
  simp [hlen,hi]
end
end Dn
/-
  What is asked of slices.DeleteFunc, and of the function that it is handed. Conditions: none.
-/
set_option linter.unusedSimpArgs false
set_option linter.unusedVariables false
namespace Dn
open Go
structure tN (P:Program) (c:Ctx) (g:Nat) (lb:Array Value) {S:Type} (Inv:S→(Nat→Prop)→Ph→World→Prop) (step:S→MV→Option (Bool×S)):Prop where
 call: ∀{s Z φ W v x b s'},Inv s Z φ W→(∀b,W.heap.size≤b→Z b)→uq φ W→dW c.key φ v x→step s x=some (b,s')→
  eZ P g (#[v]++lb) W fun r W'=>r= .bool b∧ ∃φ',Trans Z φ W φ' W'∧uq φ' W'∧Inv s' Z φ' W'
 frame: ∀{s Z φ W W'},Inv s Z φ W→W.heap.size≤W'.heap.size→(∀b,Z b→b<W.heap.size→W'.heap[b]? =W.heap[b]?)→Inv s (fun b=>Z b∧b<W.heap.size) φ W'
 mono: ∀{s Z Z' φ W},Inv s Z φ W→(∀b,Z b→Z' b)→Inv s Z' φ W
structure Q2 (c:Ctx) (ob:Option Nat) {S:Type} (Inv:S→(Nat→Prop)→Ph→World→Prop) (Z0:Nat→Prop) (φ0:Ph) (w0:World) (s:S) (Z:Nat→Prop) (φ:Ph) (W:World):Prop where
 inv:Inv s Z φ W
 new: ∀b,W.heap.size≤b→Z b
 sub: ∀b,Z b→Z0 b∨w0.heap.size≤b
 jb:uq φ W
 tr:Trans (fun b=>(Z0 b∨w0.heap.size≤b)∨ob=some b) φ0 w0 φ W
 free: ∀b off,ob=some b→φ b off=none
structure Oi (P:Program) (c:Ctx) (h el:Nat):Prop where
 run: ∀{S:Type} {Inv:S→(Nat→Prop)→Ph→World→Prop} {step:S→MV→Option (Bool×S)} {g:Nat} {lb:Array Value},tN P c g lb Inv step→
  ∀{v0:Value} {xs ys:List MV} {w:World} {Z0:Nat→Prop} {φ0:Ph} {s0 s':S},(∀x∈xs,∃ms,x= .agg ms)→b9 c (aX.plain fun b=>v0.ownBlock=some b) (lK c.key φ0) w v0 ⟨el,false,xs⟩→(∀b,v0.ownBlock=some b→ ¬Z0 b)→
  Inv s0 Z0 φ0 w→(∀b,w.heap.size≤b→Z0 b)→uq φ0 w→Qb step s0 xs=some (ys,s')→
  eZ P h #[v0,.func (.func g) #[] lb] w fun v W=> ∃Z φ,Q2 c v0.ownBlock Inv Z0 φ0 w s' Z φ W∧b9 c (aX.plain fun b=>v0.ownBlock=some b) (lK c.key φ) W v ⟨el,false,ys⟩∧ ∀b,v.ownBlock=some b→v0.ownBlock=some b
def mz (P:Program) (c:Ctx):Prop:= ∀h,c.Dj h=true→Oi P c h (c.ln (c.key h))
end Dn
/-
  Regions with a call of slices.DeleteFunc. Conditions: none.
-/
set_option linter.unusedSimpArgs false
set_option linter.unusedVariables false
namespace Dn
open Go
section
variable {P:Program} {c:Ctx} {Z:aX} {Z':Nat→Prop} {e e':Env} {st bj:St} {a:Act} {w w':World} {R:Type} {K:St→Option R} {r:R} {Q:Exit→Act→World→Prop} {o:Oper} {root:Nat} {cs:List av} {ks:List LK} {ls outs:List MV} {ps:List (Nat×Nat)} {φ':Ph}
theorem K6 (h:bn c Z e st a w) (hf:ak st.fr root= .box cs) (hm:cX cs=false) (hr:aV st.bA root=false) (ht:TC st [] ks cs ls ps) (hZ: ∀b,Z' b↔w.heap.size≤b∨gone e root ps b) {X:Nat→Prop} (hXb: ∀t dp,ak st.fr t= .box dp→ ¬X (e.B t)) (hXf: ∀f o b,ay st.aE f=some o→(e.E f).ownBlock=some b→ ¬X b) (nr:Trans (fun b=>Z' b∨X b) e.φ w φ' w') (hi:uq φ' w')
 (hc:jC c Z' φ' w' (e.B root) ks outs) (hK:B7 st root ks ps outs K=some r): ∃e' bj,bn c Z e' bj a w'∧e'.φ=φ'∧(∀b,X b→ ¬Z' b→(∀t dp,ak bj.fr t= .box dp→e'.B t≠b)∧ ∀f o,ay bj.aE f=some o→(e'.E f).ownBlock≠some b)∧K bj=some r:=by
 unfold B7 at hK
 obtain ⟨lp,rest,rO,g1,hK⟩:=eR hK
 cases rest with
 |cons=>simp [gN] at hK
 |nil=>
 simp only [gN,Fv] at hK
 cases ic:B6 (aS ks) (fA (cQ ps) st.aE)||meets (aS ks) st.bL with
 |true=>simp [ic] at hK
 |false=>
 simp only [ic,cond_false,Jw,gG,pn] at hK
 obtain ⟨HJ,zn⟩:=Bool.or_eq_false_iff.1 ic
 have HJ:=zk HJ
 have zn:=zl zn
 obtain ⟨kf,m3,E,arr,T,qX,cB,Xj,lr,lg,dz,cY⟩:=hc
 have dJ:kf=lp∧m3=rO.aE:=by
  unfold Jm at qX
  rw [g1] at qX
  simp only [gN,Option.some.injEq,Prod.mk.injEq] at qX
  exact ⟨qX.1.symm,qX.2.symm⟩
 obtain ⟨rfl,rfl⟩:=dJ
 have cC:=qW g1
 have eO: ∀f o,ay rO.aE f=some o→f∈aS ks:=fun f o ho=>(uM g1 f o ho).resolve_left (by simp [ay])
 have hs:=h.slot root
 rw [hf] at hs
 have qo: ∀b,Z' b→Z.In b:=by
  intro b hb
  rcases (hZ b).1 hb with hb|hb
  ·exact h.bH b hb
  ·exact uN h hf hr ht b hb
 have Fy: ∀t dp,ak st.fr t= .box dp→t≠root→ ¬Z' (e.B t):=by
  intro t dp NF cm hz
  rcases (hZ _).1 hz with hz|hz|⟨x,g,hp,hz⟩
  ·have:=pD h NF;omega
  ·exact h.bb t root dp cs NF hf cm hz
  ·obtain ⟨o,ho,_⟩:=ht.aE x g hp
   exact h.bf t dp g o NF ho hz
 have hold: ∀f o,ay (fA (cQ ps) st.aE) f=some o→ay st.aE f=some o∧f∉cQ ps:=by
  intro f o ho
  rw [zg] at ho
  cases hn:aV (cQ ps) f with
  |true=>simp [hn] at ho
  |false=>
   simp only [hn,Bool.false_eq_true,if_false] at ho
   exact ⟨ho,fun hm=>by rw [(aW _ _).2 hm] at hn;cases hn⟩
 have xp: ∀f o b,ay (fA (cQ ps) st.aE) f=some o→(e.E f).ownBlock=some b→ ¬Z' b:=by
  intro f o b ho hb hz
  obtain ⟨tC,Th⟩:=hold f o ho
  rcases (hZ _).1 hz with hz|hz|⟨x,g,hp,hz⟩
  ·have:=pE h tC hb;omega
  ·exact h.bf root cs f o hf tC (by rw [hb,hz])
  ·obtain ⟨o2,bN,_⟩:=ht.aE x g hp
   have:=h.ff f g o o2 b tC bN hb hz
   subst this
   exact Th (xm.2 ⟨x,hp⟩)
 have Ui: ∀t dp,ak st.fr t= .box dp→t≠root→ ¬(Z' (e.B t)∨X (e.B t)):=fun t dp h1 h2 h3=>h3.elim (Fy t dp h1 h2) (hXb t dp h1)
 have Oj: ∀f o b,ay (fA (cQ ps) st.aE) f=some o→(e.E f).ownBlock=some b→ ¬(Z' b∨X b):=fun f o b h1 h2 h3=>h3.elim (xp f o b h1 h2) (hXf f o b (hold f o h1).1 h2)
 let E2:Nat→Value:=fun f=>if aV (aS ks) f=true then E f else e.E f
 have qJ: ∀f,f∈aS ks→E2 f=E f:=fun f hf=>by show (if _ then _ else _)=_;rw [if_pos ((aW _ _).2 hf)]
 have EQ: ∀f,f∉aS ks→E2 f=e.E f:=fun f hf=>by show (if _ then _ else _)=_;rw [if_neg (fun hq=>hf ((aW _ _).1 hq))]
 have ir: ∀f o,ay (rO.aE++fA (cQ ps) st.aE) f=some o→(f∈aS ks∧ay rO.aE f=some o)∨(f∉aS ks∧ay (fA (cQ ps) st.aE) f=some o):=by
  intro f o ho
  rw [Cq] at ho
  cases hq:ay rO.aE f with
  |some o2=>simp only [hq,Option.some.injEq] at ho;exact .inl ⟨eO f o2 hq,by rw [ho]⟩
  |none=>
   simp only [hq] at ho
   refine .inr ⟨fun hm=> ?_,ho⟩
   rw [HJ f hm] at ho;cases ho
 let e2:Env:=⟨e.key,φ',E2,e.B,rO.aE++fA (cQ ps) st.aE⟩
 have nU:fQ (fun g=>True∧g∉aS ks) (fun _=>True) e e2:=by
  refine ⟨rfl,nr.ph,fun _ _=>rfl,fun f o' tC hS=> ?_⟩
  rcases ir f o' tC with ⟨h1,_⟩|⟨h1,h2⟩
  ·exact absurd h1 hS.2
  ·exact ⟨o',by rw [h.m];exact (hold f o' h2).1,EQ f h1,rfl⟩
 have NG:ap e2 arr.toList kf:=by
  have TP:fQ (fun f=>f∈aS ks) (fun _=>True) ⟨c.key,φ',E,fun _=>e.B root,rO.aE⟩ ⟨c.key,φ',E2,fun _=>e.B root,rO.aE++fA (cQ ps) st.aE⟩:=by
   refine ⟨rfl,.refl _,fun _ _=>rfl,fun f o' tC hS=> ?_⟩
   rcases ir f o' tC with ⟨h1,h2⟩|⟨h1,_⟩
   ·exact ⟨o',h2,qJ f h1,rfl⟩
   ·exact absurd hS h1
  have h1:=lg.on TP cC
  have TQ:fQ (fun _=>True) (fun _=>False) ⟨c.key,φ',E2,fun _=>e.B root,rO.aE++fA (cQ ps) st.aE⟩ e2:=⟨h.key,.refl _,fun _ h=>h.elim,fun f o ho _=>⟨o,ho,rfl,rfl⟩⟩
  exact h1.on TQ (fun _ _ _ _=>trivial)
 have hm3:cX kf=false:=NG.qn
 have Fz: ∀t,ak (bF (iD (aS ks) st.fr) root (.box kf)) t=if t=root then .box kf else uL (aS ks) (ak st.fr t):=fun t=>by rw [bk,zh]
 have nY: ∀t ds,ak (bF (iD (aS ks) st.fr) root (.box kf)) t= .box ds→ ∃ds0,ak st.fr t= .box ds0:=by
  intro t ds hb
  rw [Fz] at hb
  by_cases nr:t=root
  ·exact ⟨cs,by rw [nr];exact hf⟩
  ·rw [if_neg nr] at hb
   obtain ⟨d0,h1,_⟩:=nu _ hb
   exact ⟨d0,h1⟩
 refine ⟨e2,⟨st.bA,st.bL,bF (iD (aS ks) st.fr) root (.box kf),rO.aE++fA (cQ ps) st.aE⟩,⟨h.defers,h.size,rfl,h.key,?_,?_,?_,?_,?_,?_,?_,hi,fun b hb=>h.bH b (Nat.le_trans nr.size hb)⟩,rfl,fun b hb XU=>⟨fun t ds NF he=> ?_,fun f o ho he=> ?_⟩,hK⟩
 rotate_left 7
 ·obtain ⟨d0,k1⟩:=nY t ds NF
  exact hXb t d0 k1 (by have he:e.B t=b:=he;rw [he];exact hb)
 ·have he:(E2 f).ownBlock=some b:=he
  rcases ir f o ho with ⟨k1,k2⟩|⟨k1,k2⟩
  ·rw [qJ f k1] at he
   obtain ⟨I,cells,_,_,_,_,q5⟩:=(dz f o k2).1.row
   exact XU (q5 _ he).1
  ·rw [EQ f k1] at he
   exact hXf f o b (hold f o k2).1 he hb
 ·show (aD (bF (iD (aS ks) st.fr) root (.box kf))).Nodup
  refine cL ?_
  rw [zi];exact h.nodup
 ·intro t
  show bu Z e2 w' t _ (ak (bF (iD (aS ks) st.fr) root (.box kf)) t)
  rw [Fz]
  by_cases mw:t=root
  ·subst mw
   rw [if_pos rfl]
   exact ⟨hs.1.fG (by rw [pu hm,pu hm3]),hs.2.bH,⟨_,cB,rfl,NG⟩,lr⟩
  ·rw [if_neg mw]
   have c8:=h.slot t
   have L0:=Ui t
   generalize ak st.fr t=s at c8 L0
   by_cases wi: ∃ds,s= .box ds
   ·obtain ⟨ds,rfl⟩:=wi
    rw [Fw]
    have hz:=L0 ds rfl mw
    obtain ⟨o2,h1,h2⟩:=c8.2.obj
    refine ⟨c8.1.fG (Cp _ _),c8.2.bH,⟨o2,by show w'.heap[e.B t]? =_;rw [nr.heap _ hz (aN h1)];exact h1,?_⟩,fun off=>by show φ' (e.B t) off=none;rw [nr.free _ off hz];exact c8.2.free off⟩
    exact (Fx h2).on nU (Jy _ (fun l _ f _=>trivial))
   ·have TR:af e (a.tmps.getD t undef) s:=by cases s<;>simp only [bu] at c8<;>first|exact c8|exact absurd ⟨_,rfl⟩ wi
    have h2:=(TR.Sq (aS ks)).on nU (Jx _ (cu s))
    have NH: ∀ds,uL (aS ks) s≠ .box ds:=fun ds hq=>by
     obtain ⟨d0,h1,_⟩:=nu _ hq
     exact wi ⟨d0,h1⟩
    generalize uL (aS ks) s=s2 at h2 NH
    cases s2<;>first|exact h2|exact absurd rfl (NH _)
 ·intro t
  show bJ (bF (iD (aS ks) st.fr) root (.box kf)) (ak (bF (iD (aS ks) st.fr) root (.box kf)) t)
  have Nl: ∀q,bR (ak st.fr q)=true→bR (ak (bF (iD (aS ks) st.fr) root (.box kf)) q)=true:=by
   intro q hq
   rw [Fz]
   by_cases Sk:q=root
   ·rw [if_pos Sk];rfl
   ·rw [if_neg Sk];exact zm _ hq
  rw [Fz]
  by_cases mw:t=root
  ·rw [if_pos mw];trivial
  ·rw [if_neg mw]
   refine xn _ ?_
   have jS:=h.root t
   generalize ak st.fr t=s at jS
   cases s with
   |ptr q o=>exact Nl q jS
   |hp q o i=>exact Nl q jS
   |qB q=>exact Nl q jS
   |_=>trivial
 ·intro f o ho
  rcases ir f o ho with ⟨h1,h2⟩|⟨h1,h2⟩
  ·have hfm:=(dz f o h2).1
   have qT:f∉Z.bL:=by rw [←h.defers.2.2.1];exact zn f h1
   refine b9.to ?_ qT
   obtain ⟨I,cells,q1,q2,q3,q4,q5⟩:=hfm.row
   refine ⟨I,cells,q1,q2,?_,?_,fun b hb=> ?_⟩
   ·show w'.ownsRow 0 o.ty I.size (E2 f) o.xs.length cells
    rw [qJ f h1];exact q3
   ·show aQ e.key φ' I.size cells o.xs
    rw [h.key];exact q4
   ·have hb:(E2 f).ownBlock=some b:=hb
    rw [qJ f h1] at hb
    exact ⟨qo b (q5 b hb).1,(q5 b hb).2.1,fun hc=>hc.elim⟩
  ·obtain ⟨tC,Th⟩:=hold f o h2
   obtain ⟨I,cells,q1,q2,q3,q4,q5⟩:=(h.dS f o tC).row
   refine ⟨I,cells,q1,q2,?_,q4.mono nr.ph,?_⟩
   ·show w'.ownsRow 0 o.ty I.size (E2 f) o.xs.length cells
    rw [EQ f h1]
    refine ⟨q3.1,?_⟩
    rcases q3.2 with h6|⟨g,cap,c9,k1,k2,k3,k4⟩
    ·exact .inl h6
    ·refine .inr ⟨g,cap,c9,k1,k2,?_,k4⟩
     rw [nr.heap g (Oj f o g h2 (by rw [k1];rfl)) (aN k3)];exact k3
   ·intro aM hb
    have hb:(E2 f).ownBlock=some aM:=hb
    rw [EQ f h1] at hb
    refine ⟨(q5 aM hb).1,fun off u hu=>(q5 aM hb).2.1 off u ?_,fun k1 k2 j hj=>nr.ph.rP ((q5 aM hb).2.2 k1 k2 j hj) hj⟩
    have hu:φ' aM off=some u:=hu
    rw [nr.free _ off (Oj f o aM h2 hb)] at hu;exact hu
 ·intro t t' c1 c2 h1 h2 cm
  obtain ⟨d1,k1⟩:=nY t c1 h1
  obtain ⟨d2,k2⟩:=nY t' c2 h2
  exact h.bb t t' d1 d2 k1 k2 cm
 ·intro t c1 f o h1 h2
  show (E2 f).ownBlock≠some (e.B t)
  rcases ir f o h2 with ⟨k1,k2⟩|⟨k1,k2⟩
  ·rw [qJ f k1]
   by_cases mw:t=root
   ·rw [mw];exact (dz f o k2).2
   ·obtain ⟨d1,k3⟩:=nY t c1 h1
    intro hq
    obtain ⟨I,cells,_,_,_,_,q5⟩:=(dz f o k2).1.row
    exact Fy t d1 k3 mw (q5 _ hq).1
  ·rw [EQ f k1]
   obtain ⟨d1,k3⟩:=nY t c1 h1
   exact h.bf t d1 f o k3 (hold f o k2).1
 ·intro f f' o o' k h1 h2 h3 h4
  have h3:(E2 f).ownBlock=some k:=h3
  have h4:(E2 f').ownBlock=some k:=h4
  rcases ir f o h1 with ⟨k1,k2⟩|⟨k1,k2⟩<;>rcases ir f' o' h2 with ⟨k3,k4⟩|⟨k3,k4⟩
  ·rw [qJ f k1] at h3
   rw [qJ f' k3] at h4
   exact cY f f' o o' k k2 k4 h3 h4
  ·rw [qJ f k1] at h3
   rw [EQ f' k3] at h4
   obtain ⟨I,cells,_,_,_,_,q5⟩:=(dz f o k2).1.row
   exact absurd (q5 _ h3).1 (xp f' o' k k4 h4)
  ·rw [EQ f k1] at h3
   rw [qJ f' k3] at h4
   obtain ⟨I,cells,_,_,_,_,q5⟩:=(dz f' o' k4).1.row
   exact absurd (q5 _ h4).1 (xp f o k k2 h3)
  ·rw [EQ f k1] at h3
   rw [EQ f' k3] at h4
   exact h.ff f f' o o' k (hold f o k2).1 (hold f' o' k4).1 h3 h4
end
end Dn
/-
  A call of slices.DeleteFunc. Conditions: none.
-/
set_option linter.unusedSimpArgs false
set_option linter.unusedVariables false
namespace Dn
open Go
section
variable {P:Program} {c:Ctx} {Z:aX} {e e':Env} {st bj:St} {a:Act} {w w':World} {R:Type} {K:St→Option R} {r:R} {Q:Exit→Act→World→Prop} {o:Oper}
theorem eZ.imp {P:Program} {f:FuncId} {args:Array Value} {w:World} {R R':Value→World→Prop} (hc:eZ P f args w R) (h: ∀v w',R v w'→R' v w'):eZ P f args w R':=by
 unfold eZ at hc⊢
 split
 ·rename_i dJ
  rw [dJ] at hc
  exact Calls.mono hc (fun x rQ ⟨v,e,hr⟩=>⟨v,e,h v rQ hr⟩)
 ·rename_i dJ
  rw [dJ] at hc
  exact h _ _ hc
 ·rename_i h1 h2
  split at hc
  ·rename_i dJ;exact absurd dJ (h1 _ _ _)
  ·rename_i dJ;exact absurd dJ (h2 _ _)
  ·exact hc
theorem Trans.xx {I J:Nat→Prop} {φ φ':Ph} (h:Trans I φ w φ' w') (hs: ∀b,I b→J b):Trans J φ w φ' w':=
 ⟨h.ph,fun b hb=>h.heap b (fun hz=>hb (hs b hz)),fun b o hb=>h.free b o (fun hz=>hb (hs b hz)),h.size,h.rest⟩
theorem FW {key:Nat→Nat} {φ:Ph} {v:Value} {b:Bool} (h:dW key φ v (.b b)):v= .bool b:=by
 obtain ⟨_,h⟩:=h
 generalize rR:[v]=l at h
 cases h;simpa using rR
theorem HZ (hS:Sound P c) {f:Nat} (hg:c.dn (c.key f)=false) {lb:Array Value} {ms:List MV}:tN P c f lb (fun (_:Unit) (_:Nat→Prop) φ (_:World)=>bG c.key φ lb.toList ms) (MD c.g (c.key f) ms):=by
 refine ⟨?_,fun h _ _=>h,fun h _=>h⟩
 intro s Z φ W v x b s' hinv lH gK Uj c8
 unfold MD at c8
 split at c8
 ·rename_i b' hx
  simp only [Option.some.injEq,Prod.mk.injEq] at c8
  obtain ⟨rfl,_⟩:=c8
  have dD:dX c (fun b=>W.heap.size≤b) φ W (c.key f) (v::lb.toList) (x::ms):=by
   simp only [dX,hg,Bool.false_eq_true,if_false]
   exact ⟨v,lb.toList,rfl,Uj,hinv⟩
  have:=hS f (x::ms) (.b b') hx φ W (fun b=>W.heap.size≤b) _ (fun b hb=>hb) dD gK
  have e1:(v::lb.toList).toArray= #[v]++lb:=by apply Array.toList_inj.1;simp
  rw [e1] at this
  refine this.imp ?_
  rintro v' w' ⟨φ',t1,t2,t3⟩
  exact ⟨FW t3,φ',t1.xx lH,t2,hinv.mono t1.ph⟩
 ·cases c8
theorem K7 (hS:Sound P c) {f pos aM:Nat} {ks:List LK} {ms:List MV} {XV:List Value} (hg:c.dn (c.key f)=true) (sI:c.sig (c.key f)=some (pos,ks)) (dk:pos=ms.length+1):
 tN P c f (XV++[Value.pointer (some ⟨aM,0,none⟩)]).toArray (fun ls Z φ W=>jC c Z φ W aM ks ls∧bG c.key φ XV ms) (MF c.g (c.key f) ms):=by
 refine ⟨?_,?_,fun h hz=>⟨h.1.wide hz,h.2⟩⟩
 ·intro ls Z φ W v x b s' hinv lH gK Uj c8
  obtain ⟨nm,oM⟩:=hinv
  unfold MF at c8
  split at c8
  ·rename_i b' outs hx
   simp only [Option.some.injEq,Prod.mk.injEq] at c8
   obtain ⟨rfl,rfl⟩:=c8
   have hl:=oM.length
   have dD:dX c Z φ W (c.key f) (v::(XV++[Value.pointer (some ⟨aM,0,none⟩)])) (x::(ms++[.cell (.func 0 ls)])):=by
    simp only [dX,hg,if_true]
    refine .inr (.inr ⟨pos,ks,0,ls,aM,sI,?_,?_,?_,nm⟩)
    ·rw [dk,List.getElem?_cons_succ,←hl,List.getElem?_append_right (Nat.le_refl _)];simp
    ·rw [dk,List.getElem?_cons_succ,List.getElem?_append_right (Nat.le_refl _)];simp
    ·rw [dk,List.set_cons_succ,List.set_append_right _ _ (Nat.le_refl _),Nat.sub_self]
     exact ⟨v,_,rfl,Uj,oM.append ⟨_,[],rfl,⟨rfl,.rp aM 0 [] [] .nil (by simp)⟩,rfl⟩⟩
   have:=hS f _ _ hx φ W Z _ lH dD gK
   have e1:(v::(XV++[Value.pointer (some ⟨aM,0,none⟩)])).toArray= #[v]++(XV++[Value.pointer (some ⟨aM,0,none⟩)]).toArray:=by apply Array.toList_inj.1;simp
   rw [e1] at this
   refine this.imp ?_
   rintro v' w' ⟨φ',t1,t2,oJ,pos',Bl,abv,Kl,rT,L1,hc⟩
   rw [sI] at rT
   simp only [Option.some.injEq,Prod.mk.injEq] at rT
   obtain ⟨rfl,rfl⟩:=rT
   have hb:abv=aM:=by
    rw [dk,List.getElem?_cons_succ,←hl,List.getElem?_append_right (Nat.le_refl _)] at L1
    simp at L1
    exact L1.1.symm
   subst hb
   exact ⟨FW oJ,φ',t1,t2,hc,oM.mono t1.ph⟩
  ·cases c8
 ·intro ls Z φ W W' hinv lh mr
  obtain ⟨⟨cs,m,E,arr,T,k1,k2,k3,k4,k5,k6,k7⟩,oM⟩:=hinv
  have cA:=aN k2
  refine ⟨⟨cs,m,E,arr,T,k1,(mr aM k3 cA).trans k2,⟨k3,cA⟩,k4,k5,fun f' o' ho=>⟨?_,(k6 f' o' ho).2⟩,k7⟩,oM⟩
  obtain ⟨I,cells,q1,q2,q3,q4,q5⟩:=(k6 f' o' ho).1.row
  refine ⟨I,cells,q1,q2,⟨q3.1,?_⟩,q4,fun b hb=>⟨⟨(q5 b hb).1,DE q3 hb⟩,(q5 b hb).2⟩⟩
  rcases q3.2 with h6|⟨g,cap,c9,r1,r2,r3,r4⟩
  ·exact .inl h6
  ·exact .inr ⟨g,cap,c9,r1,r2,(mr g (q5 g (by rw [r1];rfl)).1 (aN r3)).trans r3,r4⟩
theorem JE {xs:List MV} (h:xs.all Qc=true): ∀x∈xs,∃ms,x= .agg ms:=by
 intro x hx
 have:=List.all_eq_true.1 h x hx
 cases x<;>simp [Qc] at this
 exact ⟨_,rfl⟩
theorem put_comm {a:Act} {x y:Nat} (h:x≠y) (v u:Value):(a.put (some x) v).put (some y) u=(a.put (some y) u).put (some x) v:=by
 show ({a with tmps:=(a.tmps.setIfInBounds x v).setIfInBounds y u}:Act)={a with tmps:=(a.tmps.setIfInBounds y u).setIfInBounds x v}
 rw [Array.setIfInBounds_comm v u h]
theorem JF {y d:Nat} {o1 o2:Oper} {h:Nat} {v0 v' fv:Value} {ys:List MV} {φ0:Ph} {w0:World} (hs:bn c Z e st a w) (h1:o1.dst=some y) (h2:o2.dst=some d) (SK:d≠y) (qo: ∀b,v0.ownBlock=some b→Z.In b)
 (dz:b9 c (aX.plain fun b=>v0.ownBlock=some b) (lK c.key e.φ) w v' ⟨c.ln (c.key h),false,ys⟩) (cC: ∀b,v'.ownBlock=some b→v0.ownBlock=some b) (ox: ∀b,v0.ownBlock=some b→(∀t dp,ak st.fr t= .box dp→e.B t≠b)∧ ∀f o,ay st.aE f=some o→(e.E f).ownBlock≠some b)
 (ht:Trans Z φ0 w0 e.φ w)
 (hK:(ei st (o2.dst.getD 0) ⟨c.ln (c.key h),false,ys⟩ fun st=>aL c st o2.dst (.sc (.own (o2.dst.getD 0))) fun st=>aL c st o1.dst (.sc .un) K)=some r):Out c Z K r φ0 w0 ((a.put o1.dst fv).put o2.dst v') w:=by
 have qT:=hs.Tz hK
 have fU:=kb hK
 have sZ:b9 c Z.nc e w v' ⟨c.ln (c.key h),false,ys⟩:=by
  obtain ⟨I,cells,g1,g2,g3,g4,g5⟩:=dz.row
  refine ⟨I,cells,g1,g2,g3,by rw [hs.key];exact g4,fun aM hb=>⟨qo aM (cC aM hb),(g5 aM hb).2.1,fun hc=>hc.elim⟩⟩
 have GX:=hs.HB qT sZ fun b hb=>ox b (cC b hb)
 obtain ⟨I,cells,g1,g2,g3,g4,g5⟩:=dz.row
 have fJ:v'.oneCell'=true:=by
  rcases g3.2 with ⟨rfl,_⟩|⟨g,cap,c9,rfl,_⟩<;>rfl
 obtain ⟨e3,jB,q1,q2,q3⟩:=bW (v:=v') (s:= .sc (.own (o2.dst.getD 0))) GX (.of (ot fJ) trivial) fU
 obtain ⟨e4,KJ,q4,q5,q6⟩:=bW (v:=fv) (s:= .sc .un) q1 (.of (by simp [af]) trivial) q2
 rw [h1,h2] at q4
 rw [put_comm SK] at q4
 rw [h1,h2]
 exact ⟨e4,KJ,q4,by rw [q6,q3];exact ht,q5⟩
theorem Q3 (hS:Sound P c) {h f x y d:Nat} {bo:Array Operand} {cl:Call} {o1 o2:Oper} (hd:Oi P c h (c.ln (c.key h))) (h1:o1.op= .makeFunc (.func f) #[] bo) (h2:o2.op= .call cl) (lj:cl.callee= .value (.func h)) (dD:cl.args.toList=[.tmp x,.tmp y])
 (hd1:o1.dst=some y) (Ok:o2.dst=some d) (Mc:x≠y) (SK:d≠y) (hyn:y<c.n) (j9:bn c Z e st a w) (hK:MG c h f bo.toList (.tmp x) o1 o2 st K=some r):
 o1.wp P a w (fun a1 w1=>o2.wp P a1 w1 (Out c Z K r e.φ w) Q) Q:=by
 have XW:(execOp a.eval o1).run P w= .ok (.value (.func (.func f) #[] (bo.map a.eval))) w:=by simp [execOp,h1,Instr.makeFunc]
 unfold Oper.wp
 rw [XW,Oper.upon_value]
 have yN: ∀v:Value,(a.put o1.dst v).eval (.tmp x)=a.eval (.tmp x)∧(a.put o1.dst v).eval (.tmp y)=v:=by
  intro v
  rw [hd1]
  have hy:y<a.tmps.size:=by rw [j9.size];exact hyn
  constructor
  ·show (a.put (some y) v).tmps.getD x undef=a.tmps.getD x undef
   rw [Act.ml hy,if_neg Mc]
  ·show (a.put (some y) v).tmps.getD y undef=v
   rw [Act.ml hy,if_pos rfl]
 have Uk: ∀v:Value,cl.args.map (a.put o1.dst v).eval= #[a.eval (.tmp x),v]:=by
  intro v
  apply Array.toList_inj.1
  rw [Array.toList_map,dD]
  simp [(yN v).1,(yN v).2]
 have JG: ∀v:Value,(execOp (a.put o1.dst v).eval o2).run P w=(callFunc h #[a.eval (.tmp x),v]).run P w:=by
  intro v
  have:=Uk v
  simp [execOp,h2,resolve,lj,this,Act.eval,Deferred.ofValue,invoke]
 unfold MG at hK
 cases sI:c.sig (c.key f) with
 |none=>
  simp only [sI] at hK
  cases hg:c.dn (c.key f) with
  |true=>simp [hg] at hK
  |false=>
  simp only [hg,cond_false] at hK
  obtain ⟨e1,cb,ms,s1,x1,r1,fU,fJ⟩:=pB j9 hK
  obtain ⟨e2,cr,xs,G,mZ⟩:=mu s1 (s1.eval (.tmp x)).1 fU
  simp only [gF] at mZ
  obtain ⟨Ul,tI⟩:=ct mZ
  obtain ⟨p,hp,Jn⟩:=jx tI
  obtain ⟨ys,u⟩:=p
  have oM:bG c.key e1.φ (bo.map a.eval).toList ms:=by
   have:=dU.one r1 fJ
   rw [s1.key] at this
   simpa using this
  have Bq: ∀b,(a.eval (.tmp x)).ownBlock=some b→ ¬w.heap.size≤b:=by
   intro b hb
   obtain ⟨I,cells,_,_,g3,_⟩:=G.row.row
   have:=DE g3 hb
   omega
  have qp:=hd.run (HZ hS hg) (JE Ul) G.row Bq oM (fun b hb=>hb) s1.jb hp
  refine oz (JG _) qp ?_
  rintro v' w' ⟨Zw,φ',hW,dz,cC⟩
  have Q4: ∀b,((w.heap.size≤b∨w.heap.size≤b)∨(a.eval (.tmp x)).ownBlock=some b)→Z.In b:=by
   rintro b ((hb|hb)|hb)
   ·exact s1.bH b hb
   ·exact s1.bH b hb
   ·exact G.In b hb
  have Xj: ∀t cs,ak cr.fr t= .box cs→ ¬((w.heap.size≤e2.B t∨w.heap.size≤e2.B t)∨(a.eval (.tmp x)).ownBlock=some (e2.B t)):=by
   rintro t cs ht ((hb|hb)|hb)
   ·have:=pD G.ke ht;omega
   ·have:=pD G.ke ht;omega
   ·exact G.box t cs ht hb
  have hzf: ∀f o k,ay cr.aE f=some o→(e2.E f).ownBlock=some k→ ¬((w.heap.size≤k∨w.heap.size≤k)∨(a.eval (.tmp x)).ownBlock=some k):=by
   rintro f o k ho hk ((hb|hb)|hb)
   ·have:=pE G.ke ho hk;omega
   ·have:=pE G.ke ho hk;omega
   ·exact G.dS f o k ho hk hb
  have nr:=hW.tr
  rw [←G.φ] at nr
  have Ty:=G.ke.called Q4 Xj hzf nr hW.jb
  have mw:Trans Z e.φ w φ' w':=x1.tr.trans (hW.tr.xx Q4)
  exact JF (e:={e2 with φ:=φ'}) Ty hd1 Ok SK G.In dz cC (fun b hb=>⟨fun t dp ht he=>G.box t dp ht (by rw [hb,←he]),fun f o ho hk=>G.dS f o b ho hk hb⟩) mw Jn
 |some sg=>
  obtain ⟨pos,ks⟩:=sg
  simp only [sI] at hK
  obtain ⟨e1,cb,ms,s1,x1,r1,fU,fJ⟩:=pB j9 hK
  obtain ⟨e2,cr,xs,G,mZ⟩:=mu s1 (s1.eval (.tmp x)).1 fU
  simp only [gF] at mZ
  obtain ⟨Ul,tI⟩:=ct mZ
  cases uV:bo.toList.getLast? with
  |none=>simp [uV] at tI
  |some y0=>
  simp only [uV] at tI
  split at tI
  rotate_left
  ·cases tI
  rename_i root HO
  split at tI
  rotate_left
  ·cases tI
  rename_i cs hf
  cases ic:cX cs||aV cr.bA root||!dV c ks||!Nat.beq pos (ms.length+1)||!c.dn (c.key f) with
  |true=>simp [ic] at tI
  |false=>
  simp only [ic,cond_false] at tI
  simp only [Bool.or_eq_false_iff,Bool.not_eq_false'] at ic
  obtain ⟨⟨⟨⟨hm,hr⟩,eH⟩,dk⟩,hg⟩:=ic
  have dk:=Nat.eq_of_beq_eq_true dk
  obtain ⟨ls,ps,ht,Jn⟩:=tK tI
  obtain ⟨p,hp,NI⟩:=jx Jn
  obtain ⟨ys,outs⟩:=p
  have hy0:a.eval y0= .pointer (some ⟨e2.B root,0,none⟩):=by
   have:=(G.ke.eval y0).1
   rw [HO] at this
   exact this
  have XX:(bo.map a.eval)=((bo.toList.dropLast.map a.eval)++[Value.pointer (some ⟨e2.B root,0,none⟩)]).toArray:=by
   apply Array.toList_inj.1
   rw [Array.toList_map]
   have cm:bo.toList≠[]:=by intro e;rw [e] at uV;simp at uV
   have h3:bo.toList=bo.toList.dropLast++[y0]:=by
    have h4:=List.dropLast_concat_getLast cm
    have h5:=List.getLast?_eq_some_getLast cm
    rw [uV] at h5
    rw [Option.some.inj h5]
    exact h4.symm
   rw [h3]
   simp [hy0]
  have oM:bG c.key e2.φ (bo.toList.dropLast.map a.eval) ms:=by
   have:=dU.one r1 fJ
   rw [s1.key,←G.φ] at this
   exact this
  have abx:b9 c (aX.plain fun b=>(a.eval (.tmp x)).ownBlock=some b) (lK c.key e2.φ) w (a.eval (.tmp x)) ⟨c.ln (c.key h),false,xs⟩:=by rw [G.φ];exact G.row
  let Z2:Nat→Prop:=fun b=>w.heap.size≤b∨gone e2 root ps b
  have hgx: ∀b,(a.eval (.tmp x)).ownBlock=some b→ ¬gone e2 root ps b:=by
   rintro b hb (rfl|⟨q,g,hp,hq⟩)
   ·exact G.box root cs hf hb
   ·obtain ⟨o,ho,_⟩:=ht.aE q g hp
    exact G.dS g o b ho hq hb
  have cA: ∀b,(a.eval (.tmp x)).ownBlock=some b→b<w.heap.size:=by
   intro b hb
   obtain ⟨I,cells,_,_,g3,_⟩:=G.row.row
   exact DE g3 hb
  have Bq: ∀b,(a.eval (.tmp x)).ownBlock=some b→ ¬Z2 b:=by
   rintro b hb (h'|h')
   ·have:=cA b hb;omega
   ·exact hgx b hb h'
  have nm:jC c Z2 e2.φ w (e2.B root) ks ls:=(zf G.ke hf hm eH ht).wide fun b hb=> .inr hb
  have qp:=hd.run (K7 hS hg sI dk) (JE Ul) abx Bq ⟨nm,oM⟩ (fun b hb=> .inl hb) G.ke.jb hp
  rw [←XX] at qp
  refine oz (JG _) qp ?_
  rintro v' w' ⟨Zw,φ',hW,dz,cC⟩
  have hZ2: ∀b,Z2 b∨w.heap.size≤b→Z2 b:=fun b hb=>hb.elim id .inl
  have Q4: ∀b,Z2 b→Z.In b:=fun b hb=>hb.elim (G.ke.bH b) (uN G.ke hf hr ht b)
  have nr:Trans (fun b=>Z2 b∨(a.eval (.tmp x)).ownBlock=some b) e2.φ w φ' w':=hW.tr.xx fun b hb=>hb.elim (fun h=> .inl (hZ2 b h)) .inr
  have Um:jC c Z2 φ' w' (e2.B root) ks outs:=hW.inv.1.wide fun b hb=>hZ2 b (hW.sub b hb)
  obtain ⟨e3,jB,h3,TS,hX,FB⟩:=K6 G.ke hf hm hr ht (fun b=>Iff.rfl) (X:=fun b=>(a.eval (.tmp x)).ownBlock=some b) (fun t dp tE hb=>G.box t dp tE hb) (fun f o b ho hk hb=>G.dS f o b ho hk hb) nr hW.jb Um NI
  have mw:Trans Z e.φ w φ' w':=by
   have t2:Trans Z e2.φ w φ' w':=nr.xx fun b hb=>hb.elim (Q4 b) (G.In b)
   rw [G.φ] at t2
   exact x1.tr.trans t2
  subst TS
  exact JF h3 hd1 Ok SK G.In dz cC (fun b hb=>hX b hb (Bq b hb)) mw FB
end
end Dn
/-
  Regions in the order of their text. Conditions: none.
-/
set_option linter.unusedSimpArgs false
set_option linter.unusedVariables false
namespace Dn
open Go
section
variable {P:Program} {c:Ctx} {Z:aX} {e:Env} {st:St} {a:Act} {w:World} {R:Type} {K:St→Option R} {r:R} {Q:Exit→Act→World→Prop} {ops:Array Oper}
theorem FX (hG:Good P c) {is:List Nat} {rest:List Nat}: ∀{os:List Oper} {e:Env} {st:St} {a:Act} {w:World},is.map (ops[·]?)=os.map some→bn c Z e st a w→pi c ops.toList os st K=some r→
 ∀{φ0:Ph} {w0:World},Trans Z φ0 w0 e.φ w→(∀a' w',Out c Z K r φ0 w0 a' w'→wpOps P ops Q rest a' w')→wpOps P ops Q (is++rest) a w:=by
 induction is with
 |nil=>
  intro os e st a w hm h hK φ0 w0 ht hQ
  cases os with
  |nil=>exact hQ a w ⟨e,st,h,ht,hK⟩
  |cons=>simp at hm
 |cons i is ih=>
  intro os e st a w hm h hK φ0 w0 ht hQ
  cases os with
  |nil=>simp at hm
  |cons o os=>
   simp only [List.map_cons,List.cons.injEq] at hm
   simp only [pi] at hK
   rw [List.cons_append,wpOps_cons]
   refine wpOp_mono ?_ (Jz hG hm.1 h hK)
   rintro a' w' ⟨e2,cr,h1,h2,h3⟩
   exact ih hm.2 h1 h3 (ht.trans h2) hQ
structure SL (c:Ctx) (l pre:List Oper) (f:Nat) (bo:List Operand) (h:Nat) (x:Operand) (o1 o2:Oper) (post:List Oper):Prop where
 eq:l=pre++o1::o2::post
 is: ∃(cs:Array Operand) (cl:Call) (x' y d:Nat),cs.toList=bo∧o1.op= .makeFunc (.func f) #[] cs∧o2.op= .call cl∧cl.callee= .value (.func h)∧cl.args.toList=[.tmp x',.tmp y]∧x= .tmp x'∧o1.dst=some y∧o2.dst=some d∧c.Dj h=true∧x'≠y∧d≠y∧y<c.n
theorem H0: ∀{l pre K8:List Oper} {f:Nat} {bo:List Operand} {h:Nat} {x:Operand} {o1 o2:Oper} {post:List Oper},uy c pre l=some (K8,f,bo,h,x,o1,o2,post)→SL c (pre.reverse++l) K8 f bo h x o1 o2 post:=by
 intro l
 induction l with
 |nil=>intro pre K8 f bo h x o1 o2 post hd;simp [uy] at hd
 |cons p1 l ih=>
  intro pre K8 f bo h x o1 o2 post hd
  cases l with
  |nil=>simp [uy] at hd
  |cons p2 r=>
   have Un:uy c (p1::pre) (p2::r)=some (K8,f,bo,h,x,o1,o2,post)→SL c (pre.reverse++p1::p2::r) K8 f bo h x o1 o2 post:=by
    intro hq
    have:=ih hq
    simpa using this
   unfold uy at hd
   split at hd
   ·rename_i f' first cs cl h1 h2
    split at hd
    ·rename_i h' x' y' d' k1 k2 k3 k4
     cases hb:c.Dj h'&&Nat.beq y' d'&&!Nat.beq x' d'&&!Nat.ble c.n d'&&!Nat.beq (p2.dst.getD d') d' with
     |false=>simp only [hb,cond_false] at hd;exact Un hd
     |true=>
      simp only [hb,cond_true,Option.some.injEq,Prod.mk.injEq] at hd
      obtain ⟨rfl,rfl,rfl,rfl,rfl,rfl,rfl,rfl⟩:=hd
      simp only [Bool.and_eq_true,Bool.not_eq_true',cw,decide_eq_true_eq,decide_eq_false_iff_not] at hb
      obtain ⟨⟨⟨⟨q1,rfl⟩,q3⟩,q4⟩,q5⟩:=hb
      have hf:first= #[]:=by apply Array.toList_inj.1;simpa using k3
      subst hf
      have Ok: ∃d,p2.dst=some d∧d≠y':=by
       cases hp:p2.dst with
       |none=>rw [hp] at q5;simp at q5
       |some d=>rw [hp] at q5;exact ⟨d,rfl,q5⟩
      obtain ⟨d,Ok,hd3⟩:=Ok
      refine ⟨rfl,cs,cl,x',y',d,rfl,h1,h2,k1,k2,rfl,k4,Ok,q1,q3,hd3,?_⟩
      rcases Nat.lt_or_ge y' c.n with cA|Hy
      ·exact cA
      ·have ahh:=Nat.ble_eq_true_of_le Hy
       simp_all
    ·exact Un hd
   ·exact Un hd
theorem FY: ∀{l:List Oper},yA l=true→ ∀o∈l,o.guard=none:=by
 intro l
 induction l with
 |nil=>intro _ o ho;cases ho
 |cons p l ih=>
  intro h o ho
  unfold yA at h
  cases hg:p.guard with
  |none=>
   rw [hg] at h
   rcases List.mem_cons.1 ho with rfl|ho
   ·exact hg
   ·exact ih h o ho
  |some=>rw [hg] at h;cases h
theorem K9 (hG:Good P c) (wA:mz P c) (id:Nat) (ops:Array Oper):FF P c id ops:=by
 intro Z e st a w R K r Q h hK hQ
 unfold MH at hK
 split at hK
 rotate_left
 ·exact Cs (KR hG id ops) h hK hQ
 rename_i pre f bo hh x o1 o2 post hda
 obtain ⟨dJ,cs,cl,x',y,d,rfl,k1,k2,k3,k4,rfl,k5,k6,k7,k8,k9,k10⟩:=H0 hda
 simp only [List.reverse_nil,List.nil_append] at dJ
 cases EL:yA ops.toList with
 |false=>simp [EL] at hK
 |true=>
 simp only [EL,cond_true] at hK
 obtain ⟨std,hdr,hK⟩:=nt h hK
 have hgd:=FY EL
 have PZ:o1.guard=none:=hgd o1 (by rw [dJ];simp)
 have Ma:o2.guard=none:=hgd o2 (by rw [dJ];simp)
 refine wp_region ?_
 have lh:ops.size=pre.length+(post.length+2):=by rw [←Array.length_toList,dJ];simp
 have ir: ∀i,ops[i]? =(pre++o1::o2::post)[i]? :=fun i=>by rw [←dJ,Array.getElem?_toList]
 have Uo:List.range ops.size=List.range pre.length++(pre.length::(pre.length+1)::((List.range post.length).map (· +(pre.length+2)))):=by
  rw [lh,List.range_add]
  congr 1
  rw [show post.length+2=2+post.length by omega,List.range_add]
  simp [List.range_succ]
  intros;omega
 rw [Uo]
 refine FX hG (os:=pre) ?_ hdr hK (.refl _ _ _) ?_
 ·apply List.ext_getElem?
  intro i
  simp only [List.getElem?_map]
  by_cases hi:i<pre.length
  ·rw [List.getElem?_range hi]
   simp only [Option.map_some,ir,List.getElem?_append_left hi]
   rw [List.getElem?_eq_getElem hi];rfl
  ·rw [List.getElem?_eq_none (by simp;omega),List.getElem?_eq_none (by omega)];rfl
 ·rintro a1 w1 ⟨e1,cb,s1,t1,fU⟩
  have hw:=Q3 hG.fn (wA hh k7) k1 k2 k3 k4 k5 k6 k8 k9 k10 s1 fU (P:=P) (Q:=Q)
  have nZ:ops[pre.length]? =some o1:=by rw [ir];simp
  have PY:ops[pre.length+1]? =some o2:=by rw [ir,List.getElem?_append_right (by omega)];simp
  rw [wpOps_cons]
  unfold wpOp
  simp only [nZ,Region.wanted,PZ,if_true]
  left
  refine Oper.wp_mono ?_ hw
  intro a2 w2 hw2
  rw [wpOps_cons]
  unfold wpOp
  simp only [PY,Region.wanted,Ma,if_true]
  left
  refine Oper.wp_mono ?_ hw2
  rintro a3 w3 ⟨e3,jB,s3,t3,tI⟩
  rw [←List.append_nil ((List.range post.length).map (· +(pre.length+2)))]
  refine FX hG (os:=post) ?_ s3 tI (t1.trans t3) ?_
  ·apply List.ext_getElem?
   intro i
   simp only [List.getElem?_map,List.map_map]
   by_cases hi:i<post.length
   ·rw [List.getElem?_range hi]
    simp only [Option.map_some,Function.comp,ir]
    rw [List.getElem?_append_right (by omega),show i+(pre.length+2)-pre.length=i+2 by omega]
    simp [List.getElem?_eq_getElem hi]
   ·rw [List.getElem?_eq_none (by simp;omega),List.getElem?_eq_none (by omega)];rfl
  ·intro a' w' ho
   exact hQ a' w' ho
end
end Dn
/-
  Open order with two operations that may be done either way round. Conditions: none.
-/
set_option linter.unusedSimpArgs false
set_option linter.unusedVariables false
namespace Dn
open Go
section
variable {P:Program} {ops:Array Oper} {Q:Exit→Act→World→Prop}
theorem CB (A B:Nat):(Bg ops A B).size=ops.size:=by simp [Bg]
theorem zI (A B i:Nat):(Bg ops A B)[i]? =(ops[i]?).map fun o=>if B=i then {o with after:=o.after.push ⟨A,.data⟩} else o:=by
 unfold Bg
 rw [Array.getElem?_modify]
 by_cases h:B=i
 ·simp [h]
 ·cases ops[i]? <;>simp [h]
theorem DY (A B:Nat) (tmps:Array Value):yielded (Bg ops A B) tmps=yielded ops tmps:=by
 funext j
 unfold yielded
 rw [zI]
 cases ops[j]? with
 |none=>rfl
 |some o=>
  have e:(if B=j then {o with after:=o.after.push ⟨A,.data⟩} else o).dst=o.dst:=by split<;>rfl
  simp only [Option.map_some,Option.bind_some,e]
theorem La {A B i:Nat} {K:Act→World→Prop} {a:Act} {w:World} (h:wpOp P (Bg ops A B) Q i K a w):wpOp P ops Q i K a w:=by
 unfold wpOp at h⊢
 rw [zI,DY] at h
 cases hi:ops[i]? with
 |none=>rw [hi] at h;exact h
 |some o=>
  rw [hi] at h
  simp only [Option.map_some] at h
  by_cases hb:B=i
  ·rw [if_pos hb] at h;exact h
  ·rw [if_neg hb] at h;exact h
theorem H2 {A B i:Nat} {listed:Array Bool}:i∈Region.ready .any (Bg ops A B) listed↔i∈Region.ready .any ops listed∧(i=B→listed.getD A false=true):=by
 unfold Region.ready
 rw [CB]
 simp only [List.mem_filter,List.mem_range,zI]
 cases hi:ops[i]? with
 |none=>simp
 |some o=>
  by_cases hb:B=i
  ·subst hb
   simp [Array.all_push,Region.binds]
   constructor
   ·rintro ⟨h1,h2,h3,h4⟩;exact ⟨⟨h1,h2,h3⟩,h4⟩
   ·rintro ⟨⟨h1,h2,h3⟩,h4⟩;exact ⟨h1,h2,h3,h4⟩
  ·have xQ: ¬i=B:=fun e=>hb e.symm
   simp [hb,xQ]
def SM (A B:Nat):Bool→List Nat→Prop
 |_,[]=>True
 |la,i::r=>(i=B→la=true)∧SM A B (la||decide (i=A)) r
theorem zJ (A B:Nat): ∀L,SM A B true L
 |[]=>trivial
 |i::r=>⟨fun _=>rfl,by simpa using zJ A B r⟩
theorem Ol {A B:Nat} (h:A≠B): ∀L,SM A B false L∨SM B A false L
 |[]=> .inl trivial
 |i::r=>by
  by_cases ha:i=A
  ·subst ha
   exact .inl ⟨fun e=>absurd e h,by simpa using zJ i B r⟩
  ·by_cases hb:i=B
   ·subst hb
    exact .inr ⟨fun e=>absurd e ha,by simpa using zJ i A r⟩
   ·rcases Ol h r with h1|h1
    ·exact .inl ⟨fun e=>absurd e hb,by simpa [ha] using h1⟩
    ·exact .inr ⟨fun e=>absurd e ha,by simpa [hb] using h1⟩
def lu (ops:Array Oper):List (Nat×Nat)→Array Oper
 |[]=>ops
 |p::E=>Bg (lu ops E) p.1 p.2
theorem tO: ∀E,(lu ops E).size=ops.size
 |[]=>rfl
 |p::E=>by rw [lu,CB,tO E]
theorem zK {i:Nat} {K:Act→World→Prop} {a:Act} {w:World}: ∀E,wpOp P (lu ops E) Q i K a w→wpOp P ops Q i K a w
 |[],h=>h
 |_::E,h=>zK E (La h)
theorem q0 {i:Nat} {listed:Array Bool}: ∀E,i∈Region.ready .any (lu ops E) listed↔i∈Region.ready .any ops listed∧ ∀p∈E,i=p.2→listed.getD p.1 false=true
 |[]=>by simp [lu]
 |p::E=>by
  rw [lu,H2,q0 E,List.forall_mem_cons]
  exact ⟨fun h=>⟨h.1.1,h.2,h.1.2⟩,fun h=>⟨⟨h.1,h.2.2⟩,h.2.1⟩⟩
theorem H3 {E:List (Nat×Nat)}: ∀(fuel t:Nat) (listed:Array Bool) (a:Act) (w:World),(∀p∈E,p.1<listed.size)→wpAny P .any (lu ops E) Q fuel listed a w→
 (∀p∈E,SM p.1 p.2 (listed.getD p.1 false) (Region.linearise.go .any ops fuel t listed []))→wpOps P ops Q (Region.linearise.go .any ops fuel t listed []) a w:=by
 intro fuel
 induction fuel with
 |zero=>intro t listed a w _ h _;simpa [Region.linearise.go,wpOps] using h.2
 |succ fuel ih=>
  intro t listed a w hs h hA
  obtain ⟨h₀,h₁⟩:=h
  simp only [Region.linearise.go] at hA⊢
  change wpOps P ops Q (match (Region.ready .any ops listed)[t%(Region.ready .any ops listed).length]? with
   |some i=>Region.linearise.go .any ops fuel (t/(Region.ready .any ops listed).length) (listed.setIfInBounds i true) [i]
   |none=>[].reverse) a w
  change∀p∈E,SM p.1 p.2 (listed.getD p.1 false) (match (Region.ready .any ops listed)[t%(Region.ready .any ops listed).length]? with
   |some i=>Region.linearise.go .any ops fuel (t/(Region.ready .any ops listed).length) (listed.setIfInBounds i true) [i]
   |none=>[].reverse) at hA
  cases hi:(Region.ready .any ops listed)[t%(Region.ready .any ops listed).length]? with
  |none=>
   have Ni:Region.ready .any ops listed=[]:=by
    cases hr:Region.ready .any ops listed with
    |nil=>rfl
    |cons x xs=>
     rw [hr] at hi
     have cA:t%(x::xs).length<(x::xs).length:=Nat.mod_lt _ (by simp)
     simp at hi
     simp at cA
     omega
   have XY:Region.ready .any (lu ops E) listed=[]:=by
    cases hr:Region.ready .any (lu ops E) listed with
    |nil=>rfl
    |cons x xs=>
     have:x∈Region.ready .any (lu ops E) listed:=by rw [hr];simp
     have:=((q0 E).1 this).1
     rw [Ni] at this;cases this
   simpa [wpOps] using h₀ XY
  |some i=>
   rw [hi] at hA
   simp only [] at hA⊢
   rw [linearise_go_acc,List.reverse_singleton,List.singleton_append] at hA⊢
   rw [wpOps_cons]
   have xU:=(q0 E).2 ⟨List.mem_of_getElem? hi,fun p hp=>(hA p hp).1⟩
   refine wpOp_mono (fun a w hw=>ih _ _ a w (fun p hp=>by simpa using hs p hp) hw fun p hp=> ?_) (zK E (h₁ i xU))
   have hg:(listed.setIfInBounds i true).getD p.1 false=(listed.getD p.1 false||decide (i=p.1)):=by
    rw [Array.getD_eq_getD_getElem?,Array.getD_eq_getD_getElem?,Array.getElem?_setIfInBounds]
    by_cases ZK:i=p.1
    ·subst ZK;simp [hs p hp]
    ·simp [ZK]
   rw [hg];exact (hA p hp).2
theorem zL {c:Ctx} (hG:Good P c) (xV:P.follows .mixedOrders=true) (wA:mz P c):zv P c:=by
 refine ⟨fun id ops=>K9 hG wA id ops,?_,?_⟩
 ·intro id ops l hd hp Z e st a w R K r Q h hK hQ
  refine Code.wp_mono ?_ (wp_region_any xV (FV hG hd hp h hK))
  intro x a' w' hx
  cases x<;>first|exact hQ a' w' hx|exact hx.elim
 ·intro id ops k l Z e st a w R K r Q h hK hQ
  refine Code.wp_mono (Q:=nb fun a' w'=>Out c Z K r e.φ w a' w') ?_ (wp_region_draw fun t=> ?_)
  ·intro x a' w' hx
   cases x<;>first|exact hQ a' w' hx|exact hx.elim
  simp only [Region.schedule,xV,Bool.true_or,if_true]
  have leaf: ∀(E:List (Nat×Nat)) (l:List Nat),(∀p∈E,p.1<ops.size)→I7 c (lu ops E) l st K=some r→(∀p∈E,SM p.1 p.2 false (Region.linearise.go .any ops ops.size t (Array.replicate ops.size false) []))→
   wpOps P ops (nb fun a' w'=>Out c Z K r e.φ w a' w') (Region.linearise.go .any ops ops.size t (Array.replicate ops.size false) []) a {w with drawn:=w.drawn+1}:=by
   intro E l hE hK hA
   unfold I7 at hK
   cases hd:tA c (lu ops E) l with
   |false=>simp [hd] at hK
   |true=>
    simp only [hd,cond_true] at hK
    split at hK
    ·rename_i l1 hp
     have w1:=FV hG hd hp h hK
     rw [tO] at w1
     exact H3 ops.size t _ a _ (by simpa using hE) w1 (fun p hp=>by simpa [hE p hp] using hA p hp)
    ·cases hK
  have key: ∀(k:Nat) (E:List (Nat×Nat)) (l:List Nat),(∀p∈E,p.1<ops.size)→E9 c st K k (lu ops E) l=some r→(∀p∈E,SM p.1 p.2 false (Region.linearise.go .any ops ops.size t (Array.replicate ops.size false) []))→
   wpOps P ops (nb fun a' w'=>Out c Z K r e.φ w a' w') (Region.linearise.go .any ops ops.size t (Array.replicate ops.size false) []) a {w with drawn:=w.drawn+1}:=by
   intro k
   induction k with
   |zero=>intro E l _ hK;cases hK
   |succ k ih=>
    intro E l hE hK hA
    simp only [E9] at hK
    cases hb:Nat.beq l.length (lu ops E).toList.length with
    |true=>
     simp only [hb,cond_true] at hK
     exact leaf E l hE hK hA
    |false=>
     simp only [hb,cond_false] at hK
     split at hK
     ·rename_i o1 o2 A B ht
      obtain ⟨q1,q2,q3⟩:=HR ht
      have lh:(lu ops E).toList.length=ops.size:=by rw [Array.length_toList,tO]
      rw [lh] at q2 q3
      obtain ⟨k1,k2⟩:=KS hK
      rcases Ol q1 (Region.linearise.go .any ops ops.size t (Array.replicate ops.size false) []) with ho|ho
      ·exact leaf ((A,B)::E) o1 (List.forall_mem_cons.2 ⟨q2,hE⟩) k1 (List.forall_mem_cons.2 ⟨ho,hA⟩)
      ·exact ih ((B,A)::E) o2 (List.forall_mem_cons.2 ⟨q3,hE⟩) k2 (List.forall_mem_cons.2 ⟨ho,hA⟩)
     ·cases hK
  exact key k [] l (by simp) hK (by simp)
end
end Dn
/-
  Functions of the library, by hand: copies of slices. Conditions: none.
-/
set_option linter.unusedSimpArgs false
set_option linter.unusedVariables false
namespace Dn
open Go
section
variable {P:Program} {c:Ctx} {Q:Exit→Act→World→Prop} {ops:Array Oper} {o:Oper} {a:Act} {w w':World}
theorem pK {i:Nat} {rest:List Nat} {v:Value} (hi:ops[i]? =some o) (hg:o.guard=none) (bw:(execOp a.eval o).run P w= .ok (.value v) w')
 (h:wpOps P ops Q rest (a.put o.dst v) w'):wpOps P ops Q (i::rest) a w:=by
 rw [wpOps_cons]
 unfold wpOp
 simp only [hi,Region.wanted,hg,if_true]
 left
 unfold Oper.wp
 rw [bw,Oper.upon_value];exact h
structure aF (o:Oper) (d:Nat) (op:Op):Prop where
 dst:o.dst=some d
 op:o.op=op
 guard:o.guard=none
theorem Up {key:Nat→Nat} {φ:Ph} {size:Nat} {v:Value} {xs:List MV} (gK:uq φ w) (dk:0<size) (hx:gE key φ [v] (.list xs)) (hw:lc size xs=true): ∃news,Src (lK key φ) w size v xs news:=by
 generalize hv:[v]=vs at hx
 cases hx with
 |list ad cap _ aM off Ca f g1 g2 g3 g4 g5=>
 simp at hv
 have L7: ∀i,i<xs.length→(f i).length=size:=by
  intro i hi
  rw [(g5 i hi).width]
  exact uF hw _ (List.getElem_mem hi)
 obtain ⟨cs,h1,h2⟩:=yZ L7 g5
 refine ⟨cs,h1,ad,cap,hv,?_,?_⟩
 ·intro hn
  cases xs with
  |nil=>rfl
  |cons y ys=>have:=g2 (by simp);rw [hn] at this;cases this
 ·intro x hx j u hj
  have Bb:j<cs.length:=(List.getElem?_eq_some_iff.1 hj).1
  rw [h1.length] at Bb
  have y8:0<xs.length:=by
   cases xs with
   |nil=>simp at Bb
   |cons y ys=>simp
  have Qr:=g2 y8
  rw [hx] at Qr
  cases Qr
  have hq:j/size<xs.length:=(Nat.div_lt_iff_lt_mul dk).2 Bb
  have hm:=Nat.mod_lt j dk
  have GV:j=j/size *size+j%size:=by rw [Nat.mul_comm];exact (Nat.div_add_mod j size).symm
  have e1:=h2 (j/size) (j%size) hq hm
  rw [←GV,hj] at e1
  have Nf:Ca=size:=by rw [←g3 0 y8,L7 0 y8]
  have e2:=g4 (j/size) (j%size) hq (by rw [Nf];exact hm)
  rw [←e1,Nf,Nat.add_assoc,←GV] at e2
  have:=gK _ _ _ e2
  rw [Addr.add_mid];exact this
theorem Lb {t t':TypeId} {el:TypeId} {x:Operand} {ad:Option Addr} {n cap:Nat} (hu:P.underlying t=some (.slice el)) (ho:o.op= .binOp .eql t x (.const (.slice none 0 0)) t') (hx:a.eval x= .slice ad n cap):
 (execOp a.eval o).run P w= .ok (.value (.bool ad.isNone)) w:=by
 have he:a.eval (.const (.slice none 0 0))= .slice none 0 0:=rfl
 have dJ: ∀d:Nat,(Op.equalIn (d+1) t (.slice ad n cap) (.slice none 0 0)).run P w= .ok ad.isNone w:=by
  intro d
  cases ad<;>simp [Op.equalIn,run_underlying hu]
 have hb:Go.binOp .eql t (.slice ad n cap) (.slice none 0 0)=(do pure (.bool (←Op.equal t (.slice ad n cap) (.slice none 0 0)))):=rfl
 have hg: ∀(x y:Operand),(eqGuard .eql t x y (.slice ad n cap) (.slice none 0 0)).run P w= .ok () w:=fun _ _=>rfl
 have h2:(Op.equal t (.slice ad n cap) (.slice none 0 0)).run P w= .ok ad.isNone w:=dJ 9999
 unfold execOp
 simp only [ho]
 rw [hx,he]
 simp [hg,hb,h2]
theorem Om {f:FuncId} {fn:Func} {t:TypeId} {I E:TI} {i0 i1 i2 i3:Nat} {oA oB oC oD oE oF oG oH:Oper} {xs:List MV} (hT:fI P c.ti) (hI:c.tv t=some I) (hL:I.rN=true) (hE:c.tv I.elem=some E) (ov:1≤E.bytes)
 (DZ:c.ln (c.key f)=I.elem) (hg:c.dn (c.key f)=false)
 (hf:P.funcs[f]? =some fn) (uR:(fn.name== "runtime.NumGoroutine")=false) (hn:fn.ntmps=8) (hr:fn.results= #[.tmp 2])
 (my:fn.body=some (.seq (.region i0 #[oA] false) (.seq (.seq (.region i1 #[oB,oC] false) (.cond (.tmp 4) (.seq (.region i2 #[oD] false) .ret) .skip)) (.seq (.region i3 #[oE,oF,oG,oH] false) .ret))))
 (hA:aF oA 2 (.assign (.const (.slice none 0 0)))) (hB:aF oB 3 (.move (.tmp 0))) (hC:aF oC 4 (.binOp .eql t (.tmp 3) (.const (.slice none 0 0)) t)) (hD:aF oD 2 (.assign (.const (.slice none 0 0))))
 (hEo:aF oE 5 (.buildSlice t 0 #[])) (hF:aF oF 6 (.move (.tmp 0))) (hG:aF oG 7 (.call {callee:= .builtin .append,args:= #[.tmp 5,.tmp 6],argTypes:= #[t,t]})) (hH:aF oH 2 (.assign (.tmp 7)))
 (hw:lc E.size xs=true) (eY:xs.length *E.bytes≤2^46):jD P c f [.list xs] (.fresh xs):=by
 obtain ⟨hIt,Qk⟩:=bl hI
 obtain ⟨lS,nV⟩:=bl hE
 obtain ⟨hu,E2,qJ,_,dk⟩:=TI.iq (hT t I hIt) hL
 rw [lS] at qJ
 cases qJ
 intro φ W Z vs hz dD gK
 simp only [dX,hg,Bool.false_eq_true,if_false] at dD
 obtain ⟨v,u,rfl,⟨_,hx⟩,hu0⟩:=dD
 have hu0:u=[]:=hu0
 subst hu0
 obtain ⟨ad,cap,hv,tG,hnn⟩: ∃ad cap,v= .slice ad xs.length cap∧xs.length≤cap∧(0<xs.length→ad≠none):=by
  have Ce:=hx
  generalize rR:[v]=vs at Ce
  cases Ce with
  |list ad cap _ aM off Ca f g1 g2 g3 g4 g5=>exact ⟨ad,cap,by simpa using rR,g1,fun h0 hn=>by rw [g2 h0] at hn;cases hn⟩
 have bw:(callFunc f [v].toArray).run P W= .ok (.enter f #[v]) W:=by
  have Dz: ¬fn.name= "runtime.NumGoroutine" :=by simpa using uR
  simp [callFunc,hf,Dz,my]
 unfold eZ
 rw [bw]
 refine calls_of_wp hf my ?_
 rw [hn]
 have ha0:({tmps:= #[v]++Array.replicate (8-(#[v]:Array Value).size) undef,defers:=[]}:Act)={tmps:= #[v,undef,undef,undef,undef,undef,undef,undef],defers:=[]}:=rfl
 rw [ha0]
 have abB:List.range (#[oA]:Array Oper).size=[0]:=rfl
 have abC:List.range (#[oB,oC]:Array Oper).size=[0,1]:=rfl
 have abD:List.range (#[oE,oF,oG,oH]:Array Oper).size=[0,1,2,3]:=rfl
 have abE:List.range (#[oD]:Array Oper).size=[0]:=rfl
 have fin: ∀(a:Act) (W':World) (v':Value) (cells:List Value),a.defers=[]→a.tmps.getD 2 undef=v'→(∃φ',Trans Z φ W φ' W'∧uq φ' W'∧iu c Z φ' W' (c.key f) v' (.fresh xs))→
  bodyPost P fn (fun x rQ=> ∃v,x= .returned v∧ ∃φ',Trans Z φ W φ' rQ∧uq φ' rQ∧iu c Z φ' rQ (c.key f) v (.fresh xs)) .ret a W':=by
  intro a W' v' cells hd h2 h3
  refine ⟨hd,v',?_,v',rfl,h3⟩
  have Fg:a.tmps[2]?.getD undef=v':=by simpa using h2
  simp [results,hr,Fg]
 refine wp_seq (wp_region ?_)
 rw [abB]
 refine pK (o:=oA) rfl hA.guard (v:= .slice none 0 0) (w':=W) (by simp [execOp,hA.op];rfl) ?_
 rw [hA.dst]
 refine wp_seq (wp_seq (wp_region ?_))
 rw [abC]
 refine pK (o:=oB) rfl hB.guard (v:=v) (w':=W) (by simp [execOp,hB.op];rfl) ?_
 rw [hB.dst]
 refine pK (o:=oC) rfl hC.guard (v:= .bool ad.isNone) (w':=W) (Lb hu hC.op (by rw [←hv];rfl)) ?_
 rw [hC.dst]
 refine wp_cond (t:=ad.isNone) rfl ?_
 cases Qr:ad.isNone with
 |true=>
  have Qr:ad=none:=by simpa using Qr
  have hxs:xs=[]:=by
   cases xs with
   |nil=>rfl
   |cons y ys=>exact absurd Qr (hnn (by simp))
  simp only [if_true]
  refine wp_seq (wp_region ?_)
  rw [abE]
  refine pK (o:=oD) rfl hD.guard (v:= .slice none 0 0) (w':=W) (by simp [execOp,hD.op];rfl) ?_
  rw [hD.dst]
  refine wp_ret ?_
  refine fin _ W (.slice none 0 0) [] rfl rfl ⟨φ,.refl _ _ _,gK,?_⟩
  show b9 c (aX.plain Z) (lK c.key φ) W _ ⟨c.ln (c.key f),false,xs⟩
  rw [DZ,hxs]
  exact ⟨E,[],lS,nV,⟨by simp,.inl ⟨rfl,rfl⟩⟩,rfl,fun aM hb=>by simp [Value.ownBlock] at hb⟩
 |false=>
  simp only [Bool.false_eq_true,if_false]
  refine wp_skip ?_
  refine wp_seq (wp_region ?_)
  rw [abD]
  have XZ:=Jk (P:=P) (c:=c) (w:=W) (t:=t) (I:=I) (vs:=[]) (parts:= #[]) hu lS nV dk hT (by simp) (by simp) rfl
  simp only [List.length_nil,List.flatMap_nil] at XZ
  refine pK (o:=oE) rfl hEo.guard (v:= .slice (some ⟨W.heap.size,0,none⟩) 0 0) (w':=W.alloc (.cells #[] I.elem)) (by simp [execOp,hEo.op,XZ]) ?_
  rw [hEo.dst]
  refine pK (o:=oF) rfl hF.guard (v:=v) (w':=W.alloc (.cells #[] I.elem)) (by simp [execOp,hF.op];rfl) ?_
  rw [hF.dst]
  obtain ⟨news,qU⟩:=Up gK dk hx hw
  have PZ:cy W (W.alloc (.cells #[] I.elem)):= .alloc W _ _
  have X0:Src (lK c.key φ) (W.alloc (.cells #[] I.elem)) E.size v xs news:=by
   obtain ⟨Zo,M1,q1,q2,q3⟩:=qU.val
   exact ⟨qU.Sh,Zo,M1,q1,q2,fun x hx j u hj=>PZ.cell (q3 x hx j u hj)⟩
  have cC:(W.alloc (.cells #[] I.elem)).ownsRow 0 I.elem E.size (.slice (some ⟨W.heap.size,0,none⟩) 0 0) 0 []:=
   ⟨by simp,.inr ⟨W.heap.size,0, #[],rfl,Nat.zero_le _,eB W _,Nat.le_refl _,Nat.zero_le _,by simp,by simp⟩⟩
  obtain ⟨v',W',JG,ox⟩:=tH (P:=P) (c:=c) (ty:=oG.type) hu lS nV dk hT ov cC (X0.apx hu) (by simpa using eY)
  refine pK (o:=oG) rfl hG.guard (v:=v') (w':=W') (by
   have e1: ∀(a:Act),a.eval (.tmp 5)= .slice (some ⟨W.heap.size,0,none⟩) 0 0→a.eval (.tmp 6)=v→(execOp a.eval oG).run P (W.alloc (.cells #[] I.elem))= .ok (.value v') W':=by
    intro a h5 h6
    simp [execOp,hG.op,resolve,invoke,builtin,h5,h6,JG]
   exact e1 _ rfl rfl) ?_
  rw [hG.dst]
  refine pK (o:=oH) rfl hH.guard (v:=v') (w':=W') (by simp [execOp,hH.op];rfl) ?_
  rw [hH.dst]
  refine wp_ret ?_
  refine fin _ W' v' [] rfl rfl ?_
  have lh:W.heap.size≤W'.heap.size:=Nat.le_trans PZ.size ox.size
  have hold: ∀b,b<W.heap.size→W'.heap[b]? =W.heap[b]? :=by
   intro b hb
   rw [ox.nT b (Nat.lt_of_lt_of_le hb PZ.size) (by simp [Value.ownBlock];omega)]
   exact PZ.nT b hb
  refine ⟨φ,⟨.refl _,fun b _ hb=>hold b hb,fun _ _ _=>rfl,lh,PZ.rest.trans ox.rest⟩,?_,?_⟩
  ·intro b o u X1
   have h1:=gK b o u X1
   rw [World.cell?_of_block (hold b (World.block_lt_of_cell? W _ h1))];exact h1
  ·show b9 c (aX.plain Z) (lK c.key φ) W' v' ⟨c.ln (c.key f),false,xs⟩
   rw [DZ]
   refine ⟨E,news,lS,nV,by simpa using ox.own,qU.Sh,fun aM hb=> ?_⟩
   have fK:W.heap.size≤aM:=by
    rcases ox.place with h1|h1
    ·rw [h1] at hb;simp [Value.ownBlock] at hb;omega
    ·rw [h1] at hb
     cases hb
     exact PZ.size
   refine ⟨hz aM fK,fun off u hu=> ?_,fun hc=>hc.elim⟩
   have:=World.block_lt_of_cell? W _ (gK _ _ _ hu)
   have:aM<W.heap.size:=this
   omega
end
end Dn
/-
  Tables of functions. Conditions: none.
-/
namespace Dn
open Go
structure aC (P:Program) (c:Ctx) (g:Nat→List MV→Option MV):Prop where
 all: ∀f ms r,g (c.key f) ms=some r→jD P c f ms r
abbrev bS (n:Nat) (F:List MV→Option MV) (g:Nat→List MV→Option MV):Nat→List MV→Option MV:=fun k ms=>match Nat.beq k n with|true=>F ms|false=>g k ms
theorem aC.add {P:Program} {c:Ctx} {g:Nat→List MV→Option MV} {n:Nat} {F:List MV→Option MV} (h:aC P c g) (hF: ∀f ms r,c.key f=n→F ms=some r→jD P c f ms r):aC P c (bS n F g):=by
 refine ⟨fun f ms r hr=> ?_⟩
 unfold bS at hr
 cases hk:Nat.beq (c.key f) n with
 |true=>simp only [hk] at hr;exact hF f ms r (Nat.eq_of_beq_eq_true hk) hr
 |false=>simp only [hk] at hr;exact h.all f ms r hr
structure tP (c c':Ctx):Prop where
 ti:c'.ti=c.ti
 key:c'.key=c.key
 dn:c'.dn=c.dn
 fresh:c'.fresh=c.fresh
 ln:c'.ln=c.ln
 fk:c'.fk=c.fk
 mt:c'.mt=c.mt
 sig:c'.sig=c.sig
 Dj:c'.Dj=c.Dj
theorem b9.jn {c c':Ctx} (h:c'.ti=c.ti) {Z:aX} {e:Env} {w:World} {v:Value} {o:jr} (hs:b9 c Z e w v o):b9 c' Z e w v o:=by
 obtain ⟨I,cells,h1,h2⟩:=hs.row
 exact ⟨I,cells,by rw [h];exact h1,h2⟩
theorem iu.jn {c c':Ctx} (h:tP c c') {Z:Nat→Prop} {φ:Ph} {w:World} {k:Nat} {v:Value} {r:MV} (hs:iu c Z φ w k v r):iu c' Z φ w k v r:=by
 cases r<;>simp only [iu,h.key,h.ln] at hs⊢ <;>first|exact hs|exact hs.jn h.ti
theorem jC.jn {c c':Ctx} (h:tP c c') {Z:Nat→Prop} {φ:Ph} {w:World} {aM:Nat} {ks:List LK} {ls:List MV} (hs:jC c Z φ w aM ks ls):jC c' Z φ w aM ks ls:=by
 obtain ⟨cs,m,E,arr,T,h1,h2,h3,h4,h5,h6,h7⟩:=hs
 refine ⟨cs,m,E,arr,T,h1,h2,h3,h4,by rw [h.key];exact h5,fun f o ho=>⟨?_,(h6 f o ho).2⟩,h7⟩
 rw [h.key]
 exact (h6 f o ho).1.jn h.ti
theorem s4.jn {c c':Ctx} (h:tP c c') {Z:Nat→Prop} {φ:Ph} {w:World} {k:Nat} {vs:List Value} {v:Value} {r:MV} (hs:s4 c Z φ w k vs v r):s4 c' Z φ w k vs v r:=by
 cases r<;>simp only [s4] at hs⊢ <;>first|exact hs.jn h|skip
 obtain ⟨h1,pos,ks,aM,off,h2,h3,h4⟩:=hs
 exact ⟨h1.jn h,pos,ks,aM,off,by rw [h.sig];exact h2,h3,h4.jn h⟩
theorem dX.jn {c c':Ctx} (h:tP c c') {Z:Nat→Prop} {φ:Ph} {w:World} {k:Nat} {vs:List Value} {ms:List MV} (hs:dX c' Z φ w k vs ms):dX c Z φ w k vs ms:=by
 unfold dX at hs⊢
 rw [h.dn] at hs
 split
 ·rename_i hg
  rw [if_pos hg] at hs
  rcases hs with ⟨v0,v1,v2,xs,m1,ys,h1,h2,h3,h4,h5,h6⟩|⟨v0,v1,v2,xs,m1,m2,h1,h2,h3,h4,h5,h6⟩|⟨pos,ks,off,ls,aM,h1,h2,h3,h4,h5⟩
  ·rw [h.key,h.ln] at h3 h5
   rw [h.key] at h4
   exact .inl ⟨v0,v1,v2,xs,m1,ys,h1,h2,h3.jn h.ti.symm,h4,h5.jn h.ti.symm,h6⟩
  ·rw [h.key,h.ln] at h4
   rw [h.key] at h5 h6
   exact .inr (.inl ⟨v0,v1,v2,xs,m1,m2,h1,h2,h3,h4.jn h.ti.symm,h5,h6⟩)
  ·refine .inr (.inr ⟨pos,ks,off,ls,aM,by rw [←h.sig];exact h1,h2,h3,by rw [←h.key];exact h4,?_⟩)
   obtain ⟨cs,m,E,arr,T,k1,k2,k3,k4,k5,k6,k7⟩:=h5
   refine ⟨cs,m,E,arr,T,k1,k2,k3,k4,by rw [←h.key];exact k5,fun f o ho=>⟨?_,(k6 f o ho).2⟩,k7⟩
   rw [←h.key]
   exact (k6 f o ho).1.jn h.ti.symm
 ·rename_i hg
  rw [if_neg hg,h.key] at hs
  exact hs
theorem eZ.mono {P:Program} {f:FuncId} {args:Array Value} {w:World} {R R':Value→World→Prop} (hc:eZ P f args w R) (h: ∀v w',R v w'→R' v w'):eZ P f args w R':=by
 unfold eZ at hc⊢
 split
 ·rename_i dJ
  rw [dJ] at hc
  exact Calls.mono hc (fun x rQ ⟨v,e,hr⟩=>⟨v,e,h v rQ hr⟩)
 ·rename_i dJ
  rw [dJ] at hc
  exact h _ _ hc
 ·rename_i h1 h2
  split at hc
  ·rename_i dJ;exact absurd dJ (h1 _ _ _)
  ·rename_i dJ;exact absurd dJ (h2 _ _)
  ·exact hc
theorem jD.jn {P:Program} {c c':Ctx} {f:Nat} {ms:List MV} {r:MV} (h:tP c c') (hs:jD P c f ms r):jD P c' f ms r:=by
 intro φ w Z vs hz ha hi
 rw [h.key] at ha
 refine (hs φ w Z vs hz (ha.jn h) hi).mono ?_
 rintro v w' ⟨φ',h1,h2,h3⟩
 rw [h.key]
 exact ⟨φ',h1,h2,h3.jn h⟩
theorem tP.symm {c c':Ctx} (h:tP c c'):tP c' c:=⟨h.ti.symm,h.key.symm,h.dn.symm,h.fresh.symm,h.ln.symm,h.fk.symm,h.mt.symm,h.sig.symm,h.Dj.symm⟩
theorem tN.jn {P:Program} {c c':Ctx} (h:tP c c') {g:Nat} {lb:Array Value} {S:Type} {Inv:S→(Nat→Prop)→Ph→World→Prop} {step:S→MV→Option (Bool×S)} (hp:tN P c' g lb Inv step):tN P c g lb Inv step:=
 ⟨fun h1 h2 h3 h4 h5=>hp.call h1 h2 h3 (by rw [h.key];exact h4) h5,hp.frame,hp.mono⟩
theorem mz.jn {P:Program} {c c':Ctx} (h:tP c c') (hd:mz P c):mz P c':=by
 intro f hf
 rw [h.Dj] at hf
 have hx:=hd f hf
 refine ⟨?_⟩
 intro S Inv step g lb hp v0 xs ys w Z0 φ0 s0 s' h1 h2 h3 h4 h5 h6 h7
 rw [h.key,h.ln] at h2
 refine (hx.run (hp.jn h) h1 (h2.jn h.ti.symm) h3 h4 h5 h6 h7).mono ?_
 rintro v W ⟨Z,φ,hW,hF,hb⟩
 refine ⟨Z,φ,⟨hW.inv,hW.new,hW.sub,hW.jb,hW.tr,hW.free⟩,?_,hb⟩
 rw [h.key,h.ln]
 exact hF.jn h.ti
def s9 (c:Ctx) (n:Nat) (fn:Func) (bo:List (List Kd)):Bool:=
 !(fn.name== "runtime.NumGoroutine")&&Nat.beq c.n fn.ntmps&&Nat.ble (fn.params.size+bo.length) fn.ntmps&&!c.dn n
def tQ (c:Ctx) (n:Nat) (fn:Func):Option Nat→Bool
 |none=>true
 |some ty=>Nat.beq ty (c.ln n)&&(Nat.beq fn.results.toList.length 1&&(match c.tv ty with|some _=>true|none=>false))
theorem CC {c:Ctx} {n:Nat} {fn:Func} {fresh:Option Nat} (h:tQ c n fn fresh=true): ∀ty,fresh=some ty→ty=c.ln n∧fn.results.toList.length=1∧ ∃I,c.tv ty=some I:=by
 rintro ty rfl
 simp only [tQ,Bool.and_eq_true] at h
 obtain ⟨h1,h2,h3⟩:=h
 refine ⟨Nat.eq_of_beq_eq_true h1,Nat.eq_of_beq_eq_true h2,?_⟩
 cases hc:c.tv ty with
 |none=>rw [hc] at h3;cases h3
 |some I=>exact ⟨I,rfl⟩
theorem aC.body {P:Program} {c c':Ctx} {g:Nat→List MV→Option MV} {n:Nat} {fn:Func} {bo:List (List Kd)} (h:aC P c g) (hl:tP c c') (Mh:c'.g=g) (jy:fI P c.ti) (dJ:Dy P c.ti) (yL: ∀t k,c.fk t=some k→P.underlying t=some (.float k)) (ES:qV P c) (xV:P.follows .mixedOrders=true) (wA:mz P c)
 (hf:P.funcs[n]? =some fn) (hh:s9 c' n fn bo=true) (nW: ∀f,c.key f=f) {fresh:Option Nat} (xR:tQ c' n fn fresh=true):aC P c (bS n (B9 c' bo fresh fn) g):=by
 have hG:Good P c':=by
  refine ⟨by rw [hl.ti];exact jy,by rw [hl.ti];exact dJ,fun f ms r hr=> ?_,by rw [hl.fk];exact yL,fun t s hs=>ES t s ?_⟩
  ·rw [Mh,hl.key] at hr
   exact (h.all f ms r hr).jn hl
  ·rw [←hs];unfold nR Ctx.tv;rw [hl.mt,hl.ti]
 refine h.add (fun f ms r hk hr=> ?_)
 rw [nW] at hk
 subst hk
 simp only [s9,Bool.and_eq_true,Bool.not_eq_true'] at hh
 obtain ⟨⟨⟨h1,h2⟩,h3⟩,h4⟩:=hh
 exact (QL hG (zL hG xV (wA.jn hl)) hf h1 (Nat.eq_of_beq_eq_true h2) (Nat.le_of_ble_eq_true h3) (by rw [hl.key,nW];exact h4) (by rw [hl.key,nW];exact CC xR) hr).jn hl.symm
def On (c:Ctx) (n:Nat) (fn:Func) (bo:List (List Kd)):Bool:=
 !(fn.name== "runtime.NumGoroutine")&&Nat.beq c.n fn.ntmps&&Nat.ble fn.ntmps 1000000&&Nat.ble (fn.params.size+bo.length) fn.ntmps&&c.dn n
theorem aC.X2 {P:Program} {c:Ctx} {g:Nat→List MV→Option MV} {n pos:Nat} {ks:List LK} {fn:Func} {bo:List (List Kd)} {F:List MV→Option MV} (h:aC P c g) (jy:fI P c.ti) (dJ:Dy P c.ti) (yL: ∀t k,c.fk t=some k→P.underlying t=some (.float k)) (ES:qV P c) (xV:P.follows .mixedOrders=true) (wA:mz P c)
 (hf:P.funcs[n]? =some fn) (sI:c.sig n=some (pos,ks)) (nW: ∀f,c.key f=f) (hF: ∀{ms r},F ms=some r→ ∃c':Ctx,tP c c'∧c'.g=g∧On c' n fn bo=true∧I9 c' bo pos ks fn ms=some r):aC P c (bS n F g):=by
 refine h.add (fun f ms r hk hr=> ?_)
 rw [nW] at hk
 subst hk
 obtain ⟨c',hl,Mh,hh,hr⟩:=hF hr
 have hG:Good P c':=by
  refine ⟨by rw [hl.ti];exact jy,by rw [hl.ti];exact dJ,fun f ms r hr=> ?_,by rw [hl.fk];exact yL,fun t s hs=>ES t s ?_⟩
  ·rw [Mh,hl.key] at hr
   exact (h.all f ms r hr).jn hl
  ·rw [←hs];unfold nR Ctx.tv;rw [hl.mt,hl.ti]
 simp only [On,Bool.and_eq_true,Bool.not_eq_true'] at hh
 obtain ⟨⟨⟨⟨h1,h2⟩,Fg⟩,h3⟩,h4⟩:=hh
 exact (Ob hG (zL hG xV (wA.jn hl)) hf h1 (Nat.eq_of_beq_eq_true h2) (Nat.le_of_ble_eq_true Fg) (Nat.le_of_ble_eq_true h3) (by rw [hl.key,nW];exact h4) (by rw [hl.sig,hl.key,nW];exact sI) hr).jn hl.symm
end Dn
/-
  Steps through a function of the library by hand. Conditions: none.
-/
set_option linter.unusedSimpArgs false
set_option linter.unusedVariables false
namespace Dn
open Go
def ET (σ:Nat→Value) (d:Nat) (v:Value):Nat→Value:=fun t=>bif Nat.beq t d then v else σ t
def ev (σ:Nat→Value):Operand→Value
 | .tmp t=>σ t
 | .const v=>v
 | .global g=> .pointer (some ⟨g,0,none⟩)
 | .func f=> .func (.func f) #[] #[]
structure Tm (a:Act) (n:Nat) (σ:Nat→Value):Prop where
 defers:a.defers=[]
 size:a.tmps.size=n
 get: ∀t,a.tmps.getD t undef=σ t
theorem Tm.eval {a:Act} {n:Nat} {σ:Nat→Value} (h:Tm a n σ):a.eval=ev σ:=by
 funext x
 cases x with
 |tmp t=>exact h.get t
 |_=>rfl
theorem Tm.put {a:Act} {n:Nat} {σ:Nat→Value} (h:Tm a n σ) {d:Nat} (hd:d<n) (v:Value):Tm (a.put (some d) v) n (ET σ d v):=by
 refine ⟨h.defers,by simp [Act.put,h.size],fun t=> ?_⟩
 show (a.tmps.setIfInBounds d v).getD t undef=bif Nat.beq t d then v else σ t
 by_cases ht:t=d
 ·subst ht
  have:t<a.tmps.size:=by rw [h.size];exact hd
  simp [this]
 ·have hb:Nat.beq t d=false:=by
   cases hq:Nat.beq t d with
   |false=>rfl
   |true=>exact absurd (Nat.eq_of_beq_eq_true hq) ht
  rw [hb]
  have:=h.get t
  simp only [Array.getD_eq_getD_getElem?,Array.getElem?_setIfInBounds_ne (Ne.symm ht),cond_false] at this⊢
  exact this
theorem tm3 (v0 v1 v2:Value) (k:Nat):Tm {tmps:= #[v0,v1,v2]++Array.replicate k undef,defers:=[]} (k+3) (ET (ET (ET (fun _=>undef) 0 v0) 1 v1) 2 v2):=by
 refine ⟨rfl,by simp [Nat.add_comm],fun q=> ?_⟩
 by_cases h0:q=0
 ·subst h0;show (#[v0,v1,v2]++Array.replicate k undef).getD 0 undef=v0;simp [Array.getElem?_append]
 by_cases h1:q=1
 ·subst h1;show (#[v0,v1,v2]++Array.replicate k undef).getD 1 undef=v1;simp [Array.getElem?_append]
 by_cases h2:q=2
 ·subst h2;show (#[v0,v1,v2]++Array.replicate k undef).getD 2 undef=v2;simp [Array.getElem?_append]
 have e: ∀{x y:Nat},x≠y→Nat.beq x y=false:=fun {x y} h=>by
  cases hq:Nat.beq x y with
  |false=>rfl
  |true=>exact absurd (Nat.eq_of_beq_eq_true hq) h
 simp only [ET,e h0,e h1,e h2,cond_false]
 have h3:3≤q:=by omega
 simp [Array.getElem?_append,Array.getElem?_replicate,show¬q<3 by omega]
 by_cases hk:q-3<k<;>simp [hk]
section
variable {P:Program} {Q:Exit→Act→World→Prop} {ops:Array Oper} {o:Oper} {a:Act} {w w':World} {n:Nat} {σ:Nat→Value}
theorem Tm.step {i d:Nat} {op:Op} {rest:List Nat} {v:Value} (aU:Tm a n σ) (hi:ops[i]? =some o) (ho:aF o d op) (hd:d<n) (bw:(execOp (ev σ) o).run P w= .ok (.value v) w')
 (h: ∀a',Tm a' n (ET σ d v)→wpOps P ops Q rest a' w'):wpOps P ops Q (i::rest) a w:=by
 refine pK hi ho.guard (v:=v) (w':=w') (by rw [aU.eval];exact bw) ?_
 rw [ho.dst]
 exact h _ (aU.put hd v)
theorem bg {d:Nat} {x:Operand} {e:Operand→Value} (ho:aF o d (.move x)) (w:World):(execOp e o).run P w= .ok (.value (e x)) w:=by simp [execOp,ho.op]
theorem fS {d:Nat} {x:Operand} {e:Operand→Value} (ho:aF o d (.assign x)) (w:World):(execOp e o).run P w= .ok (.value (e x)) w:=by simp [execOp,ho.op]
theorem r9 {d:Nat} {t el:TypeId} {x:Operand} {e:Operand→Value} {ad:Option Addr} {m c:Nat} (ho:aF o d (.call {callee:= .builtin .len,args:= #[x],argTypes:= #[t]})) (hu:P.underlying t=some (.slice el)) (hx:e x= .slice ad m c) (w:World):
 (execOp e o).run P w= .ok (.value (.int .i64 m)) w:=by simp [execOp,ho.op,resolve,invoke,builtin,hx,Builtin.len_,goInt,run_underlying hu]
theorem JH {d:Nat} {t el:TypeId} {x:Operand} {e:Operand→Value} {ad:Option Addr} {m c:Nat} (ho:aF o d (.call {callee:= .builtin .cap,args:= #[x],argTypes:= #[t]})) (hu:P.underlying t=some (.slice el)) (hx:e x= .slice ad m c) (w:World):
 (execOp e o).run P w= .ok (.value (.int .i64 c)) w:=by simp [execOp,ho.op,resolve,invoke,builtin,hx,Builtin.cap_,goInt,run_underlying hu]
theorem uW {d:Nat} {op:BinOp} {t t':TypeId} {x y:Operand} {e:Operand→Value} {k:IntKind} {p q:Int} {v:Value} (ho:aF o d (.binOp op t x y t')) (hx:e x= .int k p) (hy:e y= .int k q)
 (hv: ∀w:World,(Go.binOp op t (.int k p) (.int k q)).run P w= .ok v w) (w:World):(execOp e o).run P w= .ok (.value v) w:=by
 have hg:(eqGuard op t x y (.int k p) (.int k q)).run P w= .ok () w:=by cases op<;>rfl
 simp [execOp,ho.op,hx,hy,hg,hv]
theorem sa {d:Nat} {t t':TypeId} {x y:Operand} {e:Operand→Value} {p q:Int} (ho:aF o d (.binOp .eql t x y t')) (hx:e x= .int .i64 p) (hy:e y= .int .i64 q) (w:World):
 (execOp e o).run P w= .ok (.value (.bool (decide (p=q)))) w:=uW ho hx hy (fun w=>by simp [Go.binOp,Op.intCmp];rfl) w
theorem FZ {d:Nat} {t t':TypeId} {x y:Operand} {e:Operand→Value} {p q:Int} (ho:aF o d (.binOp .gtr t x y t')) (hx:e x= .int .i64 p) (hy:e y= .int .i64 q) (w:World):
 (execOp e o).run P w= .ok (.value (.bool (decide (q<p)))) w:=uW ho hx hy (fun w=>by simp [Go.binOp,Op.intCmp]) w
theorem mA {d:Nat} {t t':TypeId} {x y:Operand} {e:Operand→Value} {p q:Nat} (ho:aF o d (.binOp .add t x y t')) (hx:e x= .int .i64 p) (hy:e y= .int .i64 q) (hl:p+q<2^63) (w:World):
 (execOp e o).run P w= .ok (.value (.int .i64 ((p+q:Nat):Int))) w:=uW ho hx hy (fun w=>by
  have:IntKind.i64.wrap ((p:Int)+(q:Int))=((p+q:Nat):Int):=by rw [IntKind.wrap_i64];omega
  simp [Go.binOp,Op.intArith,this]) w
theorem Oo {d:Nat} {t t':TypeId} {x y:Operand} {e:Operand→Value} {p q:Nat} (ho:aF o d (.binOp .sub t x y t')) (hx:e x= .int .i64 p) (hy:e y= .int .i64 q) (hl:p<2^63) (hq:q≤p) (w:World):
 (execOp e o).run P w= .ok (.value (.int .i64 ((p-q:Nat):Int))) w:=uW ho hx hy (fun w=>by
  have:IntKind.i64.wrap ((p:Int)-(q:Int))=((p-q:Nat):Int):=by rw [IntKind.wrap_i64];omega
  simp [Go.binOp,Op.intArith,this]) w
theorem Q5 {d:Nat} {t:TypeId} {x:Operand} {e:Operand→Value} {b:Bool} (ho:aF o d (.unOp .not t x)) (hx:e x= .bool b) (w:World):
 (execOp e o).run P w= .ok (.value (.bool (!b))) w:=by simp [execOp,ho.op,hx,Op.unary]
theorem uX {d:Nat} {t el:TypeId} {x y:Operand} {e:Operand→Value} {ad:Option Addr} {m c l size:Nat} {i:TypeInfo} (ho:aF o d (.slice t x (some y) none none)) (hu:P.underlying t=some (.slice el)) (hi:P.info? el=some i) (hs:i.size=size)
 (hx:e x= .slice ad m c) (hy:e y= .int .i64 l) (hl:l≤m) (w:World):(execOp e o).run P w= .ok (.value (.slice (if c=l then ad else ad.map (·.add (l *size))) (m-l) (c-l))) w:=by
 simp [execOp,ho.op,Instr.sliceAt,Instr.slice,run_underlying hu,hx,hy,Go.sizeOf,typeInfo,hi,hs,Instr.sliceBounds,Instr.sliceBound,asIntOf,hl]
theorem F3 {d:Nat} {t el:TypeId} {x y:Operand} {e:Operand→Value} {ad:Option Addr} {m c l size:Nat} {i:TypeInfo} (ho:aF o d (.slice t x none (some y) none)) (hu:P.underlying t=some (.slice el)) (hi:P.info? el=some i) (hs:i.size=size)
 (hx:e x= .slice ad m c) (hy:e y= .int .i64 l) (hl:l≤c) (w:World):(execOp e o).run P w= .ok (.value (.slice ad l c)) w:=by
 have h0: ∀q:Addr,q.add 0=q:=fun q=>by obtain ⟨b,o,s⟩:=q;cases s<;>simp [Addr.add]
 have:(if c=0 then ad else ad.map (·.add (0 *size)))=ad:=by
  cases ad<;>simp [h0]
 simp [execOp,ho.op,Instr.sliceAt,Instr.slice,run_underlying hu,hx,hy,Go.sizeOf,typeInfo,hi,hs,Instr.sliceBounds,Instr.sliceBound,asIntOf,hl]
 cases ad<;>simp [h0]
theorem kh {d:Nat} {t el:TypeId} {x y:Operand} {e:Operand→Value} {g m c l size:Nat} {i:TypeInfo} (ho:aF o d (.slice t x (some y) none none)) (hu:P.underlying t=some (.slice el)) (hi:P.info? el=some i) (hs:i.size=size)
 (hx:e x= .slice (some ⟨g,0,none⟩) m c) (hy:e y= .int .i64 l) (hl:l≤m) (hc:l<c) (w:World):(execOp e o).run P w= .ok (.value (.slice (some ⟨g,l *size,none⟩) (m-l) (c-l))) w:=by
 rw [uX ho hu hi hs hx hy hl w]
 have: ¬c=l:=by omega
 have h0:(⟨g,0,none⟩:Addr).add (l *size)=⟨g,l *size,none⟩:=by
  have:=Addr.add_mid g 0 (l *size)
  rwa [Nat.zero_add] at this
 simp [this,h0]
theorem Q6 {d:Nat} {x y:Operand} {t1 t2:TypeId} {f:FuncId} {e:Operand→Value} {v1 v2 v:Value} (ho:aF o d (.call {callee:= .value (.func f),args:= #[x,y],argTypes:= #[t1,t2]})) (he:e (.func f)= .func (.func f) #[] #[]) (hx:e x=v1) (hy:e y=v2)
 (h:(callFunc f #[v1,v2]).run P w= .ok (.value v) w'):(execOp e o).run P w= .ok (.value v) w':=by
 simp [execOp,ho.op,resolve,invoke,builtin,he,hx,hy,Deferred.ofValue,h]
theorem F4 {d:Nat} {x y:Operand} {t1 t2:TypeId} {e:Operand→Value} {v1 v2 v:Value} (ho:aF o d (.call {callee:= .builtin .append,args:= #[x,y],argTypes:= #[t1,t2]})) (hx:e x=v1) (hy:e y=v2)
 (h:(Builtin.append_ #[t1,t2] o.type #[v1,v2]).run P w= .ok v w'):(execOp e o).run P w= .ok (.value v) w':=by
 simp [execOp,ho.op,resolve,invoke,builtin,hx,hy,h]
theorem uY {d:Nat} {x y:Operand} {t1 t2:TypeId} {e:Operand→Value} {v1 v2 v:Value} (ho:aF o d (.call {callee:= .builtin .copy,args:= #[x,y],argTypes:= #[t1,t2]})) (hx:e x=v1) (hy:e y=v2)
 (h:(Builtin.copy_ #[t1,t2] o.type #[v1,v2]).run P w= .ok v w'):(execOp e o).run P w= .ok (.value v) w':=by
 simp [execOp,ho.op,resolve,invoke,builtin,hx,hy,h]
theorem kD {dT sT ty elem t:TypeId} {g o Q7 Uq kc qD size k:Nat} {a:Addr} {c9:Array Value} {cs:List Value} {i:TypeInfo} (hu:P.underlying dT=some (.slice elem)) (hi:P.info? elem=some i) (hs:i.size=size)
 (hg:w.heap[g]? =some (.cells c9 t (0,0))) (hk:Nat.min kc Q7=k) (hn:cs.length=k *size)
 (qU: ∀(j:Nat) v,cs[j]? =some v→w.cell? (a.add j)=some v) (DA:o+cs.length≤c9.size) (h1: ∀v∈cs,v.oneCell'=true):
 (Builtin.copy_ #[dT,sT] ty #[.slice (some ⟨g,o,none⟩) Q7 Uq,.slice (some a) kc qD]).run P w=
  .ok (goInt k) (w.setRow g (c9.toList.take o++cs++c9.toList.drop (o+cs.length)).toArray):=by
 have hl:=run_loadCells_list (P:=P) w a cs qU
 have c8:=run_storeCells_at P g o t cs 0 c9 w hg (by simpa using DA) h1
 simp only [Nat.add_zero] at c8
 simp [Builtin.copy_,run_underlying hu,Builtin.lenOf,Builtin.firstCells,Go.sizeOf,typeInfo,hi,hs,hk,←hn,hl,c8]
def F5 (ops:Array Oper):Nat→Nat→Array Bool→Bool
 |0,i,listed=>(Region.ready .any ops (listed.setIfInBounds i true)).isEmpty&&(Region.ready .any ops listed==[i])
 |k+1,i,listed=>Region.free .any ops listed i&&(Region.ready .any ops listed).contains i&&F5 ops k (i+1) (listed.setIfInBounds i true)
def JI (ops:Array Oper):Bool:=Region.noSelect ops&&Nat.blt 0 ops.size&&F5 ops (ops.size-1) 0 (Array.replicate ops.size false)
structure JJ (ops:Array Oper) (k i:Nat) (listed:Array Bool):Prop where
 sel:Region.noSelect ops=true
 ord:F5 ops k i listed=true
theorem Tm.draw {N:Act→World→Prop} {i d:Nat} {op:Op} {k:Nat} {listed:Array Bool} {v:Value} (aU:Tm a n σ) (hi:ops[i]? =some o) (ho:aF o d op) (hd:d<n) (hb:JJ ops (k+1) i listed) (bw: ∀w,(execOp (ev σ) o).run P w= .ok (.value v) w)
 (h: ∀a',Tm a' n (ET σ d v)→JJ ops k (i+1) (listed.setIfInBounds i true)→wpAny P .any ops (nb N) (k+1) (listed.setIfInBounds i true) a' w):wpAny P .any ops (nb N) (k+2) listed a w:=by
 obtain ⟨hs,hb⟩:=hb
 simp only [F5,Bool.and_eq_true] at hb
 obtain ⟨⟨h1,h2⟩,h3⟩:=hb
 refine wpAny_take hi hs h1 h2 (fun c a w hq=>hq.elim) (v:=v) (.inl ⟨by simp [Region.wanted,ho.guard],fun w=>by rw [aU.eval];exact bw w⟩) ?_
 rw [ho.dst]
 exact h _ (aU.put hd v) ⟨hs,h3⟩
theorem Tm.last {N:Act→World→Prop} {i d:Nat} {op:Op} {listed:Array Bool} {v:Value} (aU:Tm a n σ) (hi:ops[i]? =some o) (ho:aF o d op) (hd:d<n) (hb:JJ ops 0 i listed) (bw:(execOp (ev σ) o).run P w= .ok (.value v) w')
 (h: ∀a',Tm a' n (ET σ d v)→N a' w'):wpAny P .any ops (nb N) 1 listed a w:=by
 obtain ⟨hs,hb⟩:=hb
 simp only [F5,Bool.and_eq_true,List.isEmpty_iff,beq_iff_eq] at hb
 obtain ⟨h1,h2⟩:=hb
 refine wpAny_all h2 (by simp) ?_
 intro j hj
 simp only [List.mem_singleton] at hj
 subst hj
 unfold wpOp
 simp only [hi,Region.wanted,ho.guard,if_true]
 left
 unfold Oper.wp
 rw [aU.eval,bw,Oper.upon_value,ho.dst]
 exact wpAny_done h1 (h _ (aU.put hd v)) 0
theorem JK {id k:Nat} (hm:P.follows .mixedOrders=true) (hb:JI ops=true) (hk:ops.size=k+1) (h:JJ ops k 0 (Array.replicate (k+1) false)→wpAny P .any ops (nb fun a w=>Q .normal a w) (k+1) (Array.replicate (k+1) false) a {w with drawn:=w.drawn+1}):
 (Code.region id ops true).wp P Q a w:=by
 simp only [JI,Bool.and_eq_true] at hb
 rw [hk] at hb
 refine Code.wp_mono ?_ (wp_region_any (Q:=nb fun a w=>Q .normal a w) hm (by rw [hk];exact h ⟨hb.1.1,hb.2⟩))
 intro x a' w' hx
 cases x<;>first|exact hx|exact hx.elim
theorem Tm.cond {x:Operand} {b:Bool} {A B:Code} (aU:Tm a n σ) (hx:ev σ x= .bool b) (h:(if b then A else B).wp P Q a w):(Code.cond x A B).wp P Q a w:=by
 refine wp_cond (t:=b) (by rw [aU.eval];exact hx) h
end
end Dn
/-
  slices.Insert of the library, walked. Printed by a program. Conditions: none.
-/
set_option linter.unusedSimpArgs false
set_option linter.unusedVariables false
namespace Dn
open Go
def pL (r:Nat→Nat) (o:Nat→Oper) (tail:Code):Code:=
 .seq (.region (r 0) #[o 0] false) (.seq (.region (r 1) #[o 1,o 2,o 3] false) (.seq (.region (r 2) #[o 4,o 5,o 6] false) (.seq (.seq (.region (r 3) #[o 7,o 8] false) (.cond (.tmp 16) (.seq (.region (r 4) #[o 9,o 10] false) .ret) .skip)) (.seq (.region (r 5) #[o 11,o 12,o 13] false) (.seq (.seq (.region (r 6) #[o 14,o 15,o 16] false) (.cond (.tmp 22) (.seq (.region (r 7) #[o 17,o 18,o 19,o 20] false) .ret) .skip)) (.seq (.seq (.region (r 8) #[o 21,o 22,o 23,o 24,o 25,o 26] false) (.cond (.tmp 31) (.seq (.region (r 9) #[o 27,o 28,o 29,o 30,o 31,o 32,o 33,o 34,o 35,o 36] false) (.seq (.region (r 10) #[o 37,o 38,o 39,o 40,o 41] false) (.seq (.region (r 11) #[o 42,o 43,o 44,o 45,o 46,o 47,o 48,o 49,o 50] true) (.seq (.region (r 12) #[o 51,o 52] false) .ret)))) .skip)) (.seq (.region (r 13) #[o 53,o 54,o 55,o 56,o 57,o 58] false) (.seq (.seq (.region (r 14) #[o 59,o 60,o 61,o 62,o 63,o 64,o 65,o 66] false) (.cond (.tmp 68) (.seq (.region (r 15) #[o 67,o 68,o 69,o 70,o 71,o 72,o 73,o 74,o 75] true) (.seq (.region (r 16) #[o 76,o 77,o 78,o 79,o 80] false) (.seq (.region (r 17) #[o 81,o 82] false) .ret))) .skip)) tail))))))))
structure Ur (t ti tb fo:Nat) (o:Nat→Oper):Prop where
 h0:aF (o 0) 6 (.assign (.const (.slice none 0 0)))
 h1:aF (o 1) 10 (.move (.tmp 0))
 h2:aF (o 2) 11 (.move (.tmp 1))
 h3:aF (o 3) 12 (.slice t (.tmp 10) (some (.tmp 11)) none none)
 h4:aF (o 4) 13 (.move (.tmp 2))
 h5:aF (o 5) 14 (.call {callee:= .builtin .len,args:= #[.tmp 13],argTypes:= #[t]})
 h6:aF (o 6) 7 (.assign (.tmp 14))
 h7:aF (o 7) 15 (.move (.tmp 7))
 h8:aF (o 8) 16 (.binOp .eql ti (.tmp 15) (.const (.int .i64 0)) ti)
 h9:aF (o 9) 17 (.move (.tmp 0))
 T3:aF (o 10) 6 (.assign (.tmp 17))
 Q8:aF (o 11) 18 (.move (.tmp 0))
 Q9:aF (o 12) 19 (.call {callee:= .builtin .len,args:= #[.tmp 18],argTypes:= #[t]})
 Ra:aF (o 13) 8 (.assign (.tmp 19))
 Rb:aF (o 14) 20 (.move (.tmp 1))
 Rc:aF (o 15) 21 (.move (.tmp 8))
 Re:aF (o 16) 22 (.binOp .eql ti (.tmp 20) (.tmp 21) ti)
 X3:aF (o 17) 23 (.move (.tmp 0))
 ZL:aF (o 18) 24 (.move (.tmp 2))
 ZM:aF (o 19) 25 (.call {callee:= .builtin .append,args:= #[.tmp 23,.tmp 24],argTypes:= #[t,t]})
 ZN:aF (o 20) 6 (.assign (.tmp 25))
 We:aF (o 21) 26 (.move (.tmp 8))
 Wf:aF (o 22) 27 (.move (.tmp 7))
 Wg:aF (o 23) 28 (.binOp .add ti (.tmp 26) (.tmp 27) ti)
 Wh:aF (o 24) 29 (.move (.tmp 0))
 Wi:aF (o 25) 30 (.call {callee:= .builtin .cap,args:= #[.tmp 29],argTypes:= #[t]})
 Wj:aF (o 26) 31 (.binOp .gtr ti (.tmp 28) (.tmp 30) ti)
 ZO:aF (o 27) 32 (.move (.tmp 0))
 ZP:aF (o 28) 33 (.move (.tmp 1))
 ZQ:aF (o 29) 34 (.slice t (.tmp 32) none (some (.tmp 33)) none)
 X4:aF (o 30) 35 (.move (.tmp 8))
 h31:aF (o 31) 36 (.move (.tmp 7))
 h32:aF (o 32) 37 (.binOp .add ti (.tmp 35) (.tmp 36) ti)
 h33:aF (o 33) 38 (.move (.tmp 1))
 h34:aF (o 34) 39 (.binOp .sub ti (.tmp 37) (.tmp 38) ti)
 h35:aF (o 35) 40 (.call {callee:= .builtin .append,args:= #[.tmp 34,.tmp 39],argTypes:= #[t,ti]})
 h36:aF (o 36) 9 (.assign (.tmp 40))
 h37:aF (o 37) 41 (.move (.tmp 9))
 h38:aF (o 38) 42 (.move (.tmp 1))
 h39:aF (o 39) 43 (.slice t (.tmp 41) (some (.tmp 42)) none none)
 X5:aF (o 40) 44 (.move (.tmp 2))
 h41:aF (o 41) 45 (.call {callee:= .builtin .copy,args:= #[.tmp 43,.tmp 44],argTypes:= #[t,t]})
 h42:aF (o 42) 46 (.move (.tmp 9))
 h43:aF (o 43) 47 (.move (.tmp 1))
 h44:aF (o 44) 48 (.move (.tmp 7))
 h45:aF (o 45) 49 (.binOp .add ti (.tmp 47) (.tmp 48) ti)
 h46:aF (o 46) 50 (.slice t (.tmp 46) (some (.tmp 49)) none none)
 h47:aF (o 47) 51 (.move (.tmp 0))
 h48:aF (o 48) 52 (.move (.tmp 1))
 h49:aF (o 49) 53 (.slice t (.tmp 51) (some (.tmp 52)) none none)
 h50:aF (o 50) 54 (.call {callee:= .builtin .copy,args:= #[.tmp 50,.tmp 53],argTypes:= #[t,t]})
 h51:aF (o 51) 55 (.move (.tmp 9))
 h52:aF (o 52) 6 (.assign (.tmp 55))
 h53:aF (o 53) 56 (.move (.tmp 0))
 h54:aF (o 54) 57 (.move (.tmp 8))
 h55:aF (o 55) 58 (.move (.tmp 7))
 h56:aF (o 56) 59 (.binOp .add ti (.tmp 57) (.tmp 58) ti)
 h57:aF (o 57) 60 (.slice t (.tmp 56) none (some (.tmp 59)) none)
 h58:aF (o 58) 0 (.assign (.tmp 60))
 h59:aF (o 59) 61 (.move (.tmp 2))
 h60:aF (o 60) 62 (.move (.tmp 0))
 h61:aF (o 61) 63 (.move (.tmp 1))
 h62:aF (o 62) 64 (.move (.tmp 7))
 Zt:aF (o 63) 65 (.binOp .add ti (.tmp 63) (.tmp 64) ti)
 ZR:aF (o 64) 66 (.slice t (.tmp 62) (some (.tmp 65)) none none)
 h65:aF (o 65) 67 (.call {callee:= .value (.func fo),args:= #[.tmp 61,.tmp 66],argTypes:= #[t,t]})
 h66:aF (o 66) 68 (.unOp .not tb (.tmp 67))
 h67:aF (o 67) 69 (.move (.tmp 0))
 h68:aF (o 68) 70 (.move (.tmp 1))
 h69:aF (o 69) 71 (.move (.tmp 7))
 h70:aF (o 70) 72 (.binOp .add ti (.tmp 70) (.tmp 71) ti)
 h71:aF (o 71) 73 (.slice t (.tmp 69) (some (.tmp 72)) none none)
 h72:aF (o 72) 74 (.move (.tmp 0))
 h73:aF (o 73) 75 (.move (.tmp 1))
 h74:aF (o 74) 76 (.slice t (.tmp 74) (some (.tmp 75)) none none)
 h75:aF (o 75) 77 (.call {callee:= .builtin .copy,args:= #[.tmp 73,.tmp 76],argTypes:= #[t,t]})
 h76:aF (o 76) 78 (.move (.tmp 0))
 h77:aF (o 77) 79 (.move (.tmp 1))
 h78:aF (o 78) 80 (.slice t (.tmp 78) (some (.tmp 79)) none none)
 h79:aF (o 79) 81 (.move (.tmp 2))
 h80:aF (o 80) 82 (.call {callee:= .builtin .copy,args:= #[.tmp 80,.tmp 81],argTypes:= #[t,t]})
 h81:aF (o 81) 83 (.move (.tmp 0))
 h82:aF (o 82) 6 (.assign (.tmp 83))
 d11:JI #[o 42,o 43,o 44,o 45,o 46,o 47,o 48,o 49,o 50]=true
 d15:JI #[o 67,o 68,o 69,o 70,o 71,o 72,o 73,o 74,o 75]=true
structure F6 (P:Program) (f t ti tb el fo:Nat) (fn:Func) (r:Nat→Nat) (o:Nat→Oper) (tail:Code):Prop where
 pos:P.funcs[f]? =some fn
 name:(fn.name== "runtime.NumGoroutine")=false
 tmps:fn.ntmps=95
 res:fn.results= #[.tmp 6]
 body:fn.body=some (pL r o tail)
 ops:Ur t ti tb fo o
 mix:P.follows .mixedOrders=true
 CD:P.underlying t=some (.slice el)
section
variable {P:Program} {f t ti tb el fo:Nat} {fn:Func} {r:Nat→Nat} {o:Nat→Oper} {tail:Code} {ie:TypeInfo} {size n m c c2 i g g2:Nat} {ad:Option Addr} {w:World}
theorem D5 {a:Act} {w:World} {σ:Nat→Value} {R:Ending→World→Prop} {v:Value} (hr:fn.results= #[.tmp 6]) (aU:Tm a 95 σ) (h6:σ 6=v) (h:R (.returned v) w):bodyPost P fn R .ret a w:=by
 refine ⟨aU.defers,v,?_,h⟩
 have h2:a.tmps[6]?.getD undef=v:=by have:=aU.get 6;rw [h6] at this;simpa using this
 simp [results,hr,h2]
theorem Rf (hf:F6 P f t ti tb el fo fn r o tail) (uo:P.info? el=some ie) (xW:ie.size=size) (hm:0<m) (hn:n≤c) (hc:c<2^63) (V3:n+m<2^63) (hi:i=n) {v:Value} {w1:World} (bw: ∀ty,(Builtin.append_ #[t,t] ty #[.slice ad n c,.slice (some ⟨g2,0,none⟩) m c2]).run P w= .ok v w1)
 :Calls P f #[.slice ad n c,.int .i64 ((i:Nat):Int),.slice (some ⟨g2,0,none⟩) m c2] w fun x w'=>x= .returned v∧w'=w1:=by
 refine calls_of_wp hf.pos hf.body ?_
 rw [hf.tmps]
 have key: ∀a:Act,Tm a 95 (ET (ET (ET (fun _=>undef) 0 (.slice ad n c)) 1 (.int .i64 ((i:Nat):Int))) 2 (.slice (some ⟨g2,0,none⟩) m c2))→(pL r o tail).wp P (bodyPost P fn fun x w'=>x= .returned v∧w'=w1) a w:=by
  intro a aU
  unfold pL
  refine wp_seq (wp_region ?_)
  rw [show List.range (#[o 0]:Array Oper).size=[0] from rfl]
  refine aU.step (v:= .slice none 0 0) rfl hf.ops.h0 (by decide) (fS hf.ops.h0 _) (fun a aU=> ?_)
  refine wp_seq (wp_region ?_)
  rw [show List.range (#[o 1,o 2,o 3]:Array Oper).size=[0,1,2] from rfl]
  refine aU.step (v:= .slice ad n c) rfl hf.ops.h1 (by decide) (bg hf.ops.h1 _) (fun a aU=> ?_)
  refine aU.step (v:= .int .i64 ((i:Nat):Int)) rfl hf.ops.h2 (by decide) (bg hf.ops.h2 _) (fun a aU=> ?_)
  refine aU.step (v:= .slice (if c=i then ad else (ad:Option Addr).map (·.add (i *size))) (n-i) (c-i)) rfl hf.ops.h3 (by decide) (uX hf.ops.h3 hf.CD uo xW rfl rfl (by omega) _) (fun a aU=> ?_)
  refine wp_seq (wp_region ?_)
  rw [show List.range (#[o 4,o 5,o 6]:Array Oper).size=[0,1,2] from rfl]
  refine aU.step (v:= .slice (some ⟨g2,0,none⟩) m c2) rfl hf.ops.h4 (by decide) (bg hf.ops.h4 _) (fun a aU=> ?_)
  refine aU.step (v:= .int .i64 ((m:Nat):Int)) rfl hf.ops.h5 (by decide) (r9 hf.ops.h5 hf.CD rfl _) (fun a aU=> ?_)
  refine aU.step (v:= .int .i64 ((m:Nat):Int)) rfl hf.ops.h6 (by decide) (fS hf.ops.h6 _) (fun a aU=> ?_)
  refine wp_seq ?_
  refine wp_seq (wp_region ?_)
  rw [show List.range (#[o 7,o 8]:Array Oper).size=[0,1] from rfl]
  refine aU.step (v:= .int .i64 ((m:Nat):Int)) rfl hf.ops.h7 (by decide) (bg hf.ops.h7 _) (fun a aU=> ?_)
  refine aU.step (v:= .bool (decide (((m:Nat):Int)=((0:Nat):Int)))) rfl hf.ops.h8 (by decide) (sa hf.ops.h8 rfl rfl _) (fun a aU=> ?_)
  refine aU.cond (b:=false) (by show Value.bool (decide (((m:Nat):Int)=((0:Nat):Int)))=_;rw [decide_eq_false (by omega)]) ?_
  simp only [Bool.false_eq_true,if_false]
  refine wp_skip ?_
  refine wp_seq (wp_region ?_)
  rw [show List.range (#[o 11,o 12,o 13]:Array Oper).size=[0,1,2] from rfl]
  refine aU.step (v:= .slice ad n c) rfl hf.ops.Q8 (by decide) (bg hf.ops.Q8 _) (fun a aU=> ?_)
  refine aU.step (v:= .int .i64 ((n:Nat):Int)) rfl hf.ops.Q9 (by decide) (r9 hf.ops.Q9 hf.CD rfl _) (fun a aU=> ?_)
  refine aU.step (v:= .int .i64 ((n:Nat):Int)) rfl hf.ops.Ra (by decide) (fS hf.ops.Ra _) (fun a aU=> ?_)
  refine wp_seq ?_
  refine wp_seq (wp_region ?_)
  rw [show List.range (#[o 14,o 15,o 16]:Array Oper).size=[0,1,2] from rfl]
  refine aU.step (v:= .int .i64 ((i:Nat):Int)) rfl hf.ops.Rb (by decide) (bg hf.ops.Rb _) (fun a aU=> ?_)
  refine aU.step (v:= .int .i64 ((n:Nat):Int)) rfl hf.ops.Rc (by decide) (bg hf.ops.Rc _) (fun a aU=> ?_)
  refine aU.step (v:= .bool (decide (((i:Nat):Int)=((n:Nat):Int)))) rfl hf.ops.Re (by decide) (sa hf.ops.Re rfl rfl _) (fun a aU=> ?_)
  refine aU.cond (b:=true) (by show Value.bool (decide (((i:Nat):Int)=((n:Nat):Int)))=_;rw [decide_eq_true (by omega)]) ?_
  simp only [if_true]
  refine wp_seq (wp_region ?_)
  rw [show List.range (#[o 17,o 18,o 19,o 20]:Array Oper).size=[0,1,2,3] from rfl]
  refine aU.step (v:= .slice ad n c) rfl hf.ops.X3 (by decide) (bg hf.ops.X3 _) (fun a aU=> ?_)
  refine aU.step (v:= .slice (some ⟨g2,0,none⟩) m c2) rfl hf.ops.ZL (by decide) (bg hf.ops.ZL _) (fun a aU=> ?_)
  refine aU.step (v:=v) rfl hf.ops.ZM (by decide) (F4 hf.ops.ZM rfl rfl (bw _)) (fun a aU=> ?_)
  refine aU.step (v:=v) rfl hf.ops.ZN (by decide) (fS hf.ops.ZN _) (fun a aU=> ?_)
  refine wp_ret ?_
  show bodyPost P fn (fun x wq=>x= .returned (v)∧wq=w1) .ret a w1
  refine D5 hf.res aU (v:=v) rfl ?_
  exact ⟨rfl,rfl⟩
 exact key _ (tm3 _ _ _ 92)
theorem Oq (hf:F6 P f t ti tb el fo fn r o tail) (uo:P.info? el=some ie) (xW:ie.size=size) (hm:0<m) (hn:n≤c) (hc:c<2^63) (V3:n+m<2^63) (hi:i<n) (nq:c<n+m) {g9 G:Nat} {v1 v2:Value} {w1 w2 w3:World} (hG:n+m≤G) (hA: ∀ty,(Builtin.append_ #[t,ti] ty #[.slice (some ⟨g,0,none⟩) i c,.int .i64 ((n+m-i:Nat):Int)]).run P w= .ok (.slice (some ⟨g9,0,none⟩) (n+m) G) w1)
 (hB: ∀ty,(Builtin.copy_ #[t,t] ty #[.slice (some ⟨g9,i *size,none⟩) (n+m-i) (G-i),.slice (some ⟨g2,0,none⟩) m c2]).run P w1= .ok v1 w2)
 (hC: ∀ty,(Builtin.copy_ #[t,t] ty #[.slice (some ⟨g9,(i+m) *size,none⟩) (n+m-(i+m)) (G-(i+m)),.slice (some ⟨g,i *size,none⟩) (n-i) (c-i)]).run P {w2 with drawn:=w2.drawn+1}= .ok v2 w3)
 :Calls P f #[.slice (some ⟨g,0,none⟩) n c,.int .i64 ((i:Nat):Int),.slice (some ⟨g2,0,none⟩) m c2] w fun x w'=>x= .returned (.slice (some ⟨g9,0,none⟩) (n+m) G)∧w'=w3:=by
 refine calls_of_wp hf.pos hf.body ?_
 rw [hf.tmps]
 have key: ∀a:Act,Tm a 95 (ET (ET (ET (fun _=>undef) 0 (.slice (some ⟨g,0,none⟩) n c)) 1 (.int .i64 ((i:Nat):Int))) 2 (.slice (some ⟨g2,0,none⟩) m c2))→(pL r o tail).wp P (bodyPost P fn fun x w'=>x= .returned (.slice (some ⟨g9,0,none⟩) (n+m) G)∧w'=w3) a w:=by
  intro a aU
  unfold pL
  refine wp_seq (wp_region ?_)
  rw [show List.range (#[o 0]:Array Oper).size=[0] from rfl]
  refine aU.step (v:= .slice none 0 0) rfl hf.ops.h0 (by decide) (fS hf.ops.h0 _) (fun a aU=> ?_)
  refine wp_seq (wp_region ?_)
  rw [show List.range (#[o 1,o 2,o 3]:Array Oper).size=[0,1,2] from rfl]
  refine aU.step (v:= .slice (some ⟨g,0,none⟩) n c) rfl hf.ops.h1 (by decide) (bg hf.ops.h1 _) (fun a aU=> ?_)
  refine aU.step (v:= .int .i64 ((i:Nat):Int)) rfl hf.ops.h2 (by decide) (bg hf.ops.h2 _) (fun a aU=> ?_)
  refine aU.step (v:= .slice (if c=i then (some ⟨g,0,none⟩) else ((some ⟨g,0,none⟩):Option Addr).map (·.add (i *size))) (n-i) (c-i)) rfl hf.ops.h3 (by decide) (uX hf.ops.h3 hf.CD uo xW rfl rfl (by omega) _) (fun a aU=> ?_)
  refine wp_seq (wp_region ?_)
  rw [show List.range (#[o 4,o 5,o 6]:Array Oper).size=[0,1,2] from rfl]
  refine aU.step (v:= .slice (some ⟨g2,0,none⟩) m c2) rfl hf.ops.h4 (by decide) (bg hf.ops.h4 _) (fun a aU=> ?_)
  refine aU.step (v:= .int .i64 ((m:Nat):Int)) rfl hf.ops.h5 (by decide) (r9 hf.ops.h5 hf.CD rfl _) (fun a aU=> ?_)
  refine aU.step (v:= .int .i64 ((m:Nat):Int)) rfl hf.ops.h6 (by decide) (fS hf.ops.h6 _) (fun a aU=> ?_)
  refine wp_seq ?_
  refine wp_seq (wp_region ?_)
  rw [show List.range (#[o 7,o 8]:Array Oper).size=[0,1] from rfl]
  refine aU.step (v:= .int .i64 ((m:Nat):Int)) rfl hf.ops.h7 (by decide) (bg hf.ops.h7 _) (fun a aU=> ?_)
  refine aU.step (v:= .bool (decide (((m:Nat):Int)=((0:Nat):Int)))) rfl hf.ops.h8 (by decide) (sa hf.ops.h8 rfl rfl _) (fun a aU=> ?_)
  refine aU.cond (b:=false) (by show Value.bool (decide (((m:Nat):Int)=((0:Nat):Int)))=_;rw [decide_eq_false (by omega)]) ?_
  simp only [Bool.false_eq_true,if_false]
  refine wp_skip ?_
  refine wp_seq (wp_region ?_)
  rw [show List.range (#[o 11,o 12,o 13]:Array Oper).size=[0,1,2] from rfl]
  refine aU.step (v:= .slice (some ⟨g,0,none⟩) n c) rfl hf.ops.Q8 (by decide) (bg hf.ops.Q8 _) (fun a aU=> ?_)
  refine aU.step (v:= .int .i64 ((n:Nat):Int)) rfl hf.ops.Q9 (by decide) (r9 hf.ops.Q9 hf.CD rfl _) (fun a aU=> ?_)
  refine aU.step (v:= .int .i64 ((n:Nat):Int)) rfl hf.ops.Ra (by decide) (fS hf.ops.Ra _) (fun a aU=> ?_)
  refine wp_seq ?_
  refine wp_seq (wp_region ?_)
  rw [show List.range (#[o 14,o 15,o 16]:Array Oper).size=[0,1,2] from rfl]
  refine aU.step (v:= .int .i64 ((i:Nat):Int)) rfl hf.ops.Rb (by decide) (bg hf.ops.Rb _) (fun a aU=> ?_)
  refine aU.step (v:= .int .i64 ((n:Nat):Int)) rfl hf.ops.Rc (by decide) (bg hf.ops.Rc _) (fun a aU=> ?_)
  refine aU.step (v:= .bool (decide (((i:Nat):Int)=((n:Nat):Int)))) rfl hf.ops.Re (by decide) (sa hf.ops.Re rfl rfl _) (fun a aU=> ?_)
  refine aU.cond (b:=false) (by show Value.bool (decide (((i:Nat):Int)=((n:Nat):Int)))=_;rw [decide_eq_false (by omega)]) ?_
  simp only [Bool.false_eq_true,if_false]
  refine wp_skip ?_
  refine wp_seq ?_
  refine wp_seq (wp_region ?_)
  rw [show List.range (#[o 21,o 22,o 23,o 24,o 25,o 26]:Array Oper).size=[0,1,2,3,4,5] from rfl]
  refine aU.step (v:= .int .i64 ((n:Nat):Int)) rfl hf.ops.We (by decide) (bg hf.ops.We _) (fun a aU=> ?_)
  refine aU.step (v:= .int .i64 ((m:Nat):Int)) rfl hf.ops.Wf (by decide) (bg hf.ops.Wf _) (fun a aU=> ?_)
  refine aU.step (v:= .int .i64 ((n+m:Nat):Int)) rfl hf.ops.Wg (by decide) (mA hf.ops.Wg rfl rfl (by omega) _) (fun a aU=> ?_)
  refine aU.step (v:= .slice (some ⟨g,0,none⟩) n c) rfl hf.ops.Wh (by decide) (bg hf.ops.Wh _) (fun a aU=> ?_)
  refine aU.step (v:= .int .i64 ((c:Nat):Int)) rfl hf.ops.Wi (by decide) (JH hf.ops.Wi hf.CD rfl _) (fun a aU=> ?_)
  refine aU.step (v:= .bool (decide (((c:Nat):Int)<(((n+m):Nat):Int)))) rfl hf.ops.Wj (by decide) (FZ hf.ops.Wj rfl rfl _) (fun a aU=> ?_)
  refine aU.cond (b:=true) (by show Value.bool (decide (((c:Nat):Int)<((n+m:Nat):Int)))=_;rw [decide_eq_true (by omega)]) ?_
  simp only [if_true]
  refine wp_seq (wp_region ?_)
  rw [show List.range (#[o 27,o 28,o 29,o 30,o 31,o 32,o 33,o 34,o 35,o 36]:Array Oper).size=[0,1,2,3,4,5,6,7,8,9] from rfl]
  refine aU.step (v:= .slice (some ⟨g,0,none⟩) n c) rfl hf.ops.ZO (by decide) (bg hf.ops.ZO _) (fun a aU=> ?_)
  refine aU.step (v:= .int .i64 ((i:Nat):Int)) rfl hf.ops.ZP (by decide) (bg hf.ops.ZP _) (fun a aU=> ?_)
  refine aU.step (v:= .slice (some ⟨g,0,none⟩) i c) rfl hf.ops.ZQ (by decide) (F3 hf.ops.ZQ hf.CD uo xW rfl rfl (by omega) _) (fun a aU=> ?_)
  refine aU.step (v:= .int .i64 ((n:Nat):Int)) rfl hf.ops.X4 (by decide) (bg hf.ops.X4 _) (fun a aU=> ?_)
  refine aU.step (v:= .int .i64 ((m:Nat):Int)) rfl hf.ops.h31 (by decide) (bg hf.ops.h31 _) (fun a aU=> ?_)
  refine aU.step (v:= .int .i64 ((n+m:Nat):Int)) rfl hf.ops.h32 (by decide) (mA hf.ops.h32 rfl rfl (by omega) _) (fun a aU=> ?_)
  refine aU.step (v:= .int .i64 ((i:Nat):Int)) rfl hf.ops.h33 (by decide) (bg hf.ops.h33 _) (fun a aU=> ?_)
  refine aU.step (v:= .int .i64 (((n+m)-i:Nat):Int)) rfl hf.ops.h34 (by decide) (Oo hf.ops.h34 rfl rfl (by omega) (by omega) _) (fun a aU=> ?_)
  refine aU.step (v:= .slice (some ⟨g9,0,none⟩) (n+m) G) rfl hf.ops.h35 (by decide) (F4 hf.ops.h35 rfl rfl (hA _)) (fun a aU=> ?_)
  refine aU.step (v:= .slice (some ⟨g9,0,none⟩) (n+m) G) rfl hf.ops.h36 (by decide) (fS hf.ops.h36 _) (fun a aU=> ?_)
  refine wp_seq (wp_region ?_)
  rw [show List.range (#[o 37,o 38,o 39,o 40,o 41]:Array Oper).size=[0,1,2,3,4] from rfl]
  refine aU.step (v:= .slice (some ⟨g9,0,none⟩) (n+m) G) rfl hf.ops.h37 (by decide) (bg hf.ops.h37 _) (fun a aU=> ?_)
  refine aU.step (v:= .int .i64 ((i:Nat):Int)) rfl hf.ops.h38 (by decide) (bg hf.ops.h38 _) (fun a aU=> ?_)
  refine aU.step (v:= .slice (some ⟨g9,i *size,none⟩) (n+m-i) (G-i)) rfl hf.ops.h39 (by decide) (kh hf.ops.h39 hf.CD uo xW rfl rfl (by omega) (by omega) _) (fun a aU=> ?_)
  refine aU.step (v:= .slice (some ⟨g2,0,none⟩) m c2) rfl hf.ops.X5 (by decide) (bg hf.ops.X5 _) (fun a aU=> ?_)
  refine aU.step (v:=v1) rfl hf.ops.h41 (by decide) (uY hf.ops.h41 rfl rfl (hB _)) (fun a aU=> ?_)
  refine wp_seq (JK hf.mix hf.ops.d11 (k:=8) rfl fun ga=> ?_)
  refine aU.draw (v:= .slice (some ⟨g9,0,none⟩) (n+m) G) rfl hf.ops.h42 (by decide) ga (fun w=>bg hf.ops.h42 _) (fun a aU ga=> ?_)
  refine aU.draw (v:= .int .i64 ((i:Nat):Int)) rfl hf.ops.h43 (by decide) ga (fun w=>bg hf.ops.h43 _) (fun a aU ga=> ?_)
  refine aU.draw (v:= .int .i64 ((m:Nat):Int)) rfl hf.ops.h44 (by decide) ga (fun w=>bg hf.ops.h44 _) (fun a aU ga=> ?_)
  refine aU.draw (v:= .int .i64 ((i+m:Nat):Int)) rfl hf.ops.h45 (by decide) ga (fun w=>mA hf.ops.h45 rfl rfl (by omega) _) (fun a aU ga=> ?_)
  refine aU.draw (v:= .slice (some ⟨g9,(i+m) *size,none⟩) (n+m-(i+m)) (G-(i+m))) rfl hf.ops.h46 (by decide) ga (fun w=>kh hf.ops.h46 hf.CD uo xW rfl rfl (by omega) (by omega) _) (fun a aU ga=> ?_)
  refine aU.draw (v:= .slice (some ⟨g,0,none⟩) n c) rfl hf.ops.h47 (by decide) ga (fun w=>bg hf.ops.h47 _) (fun a aU ga=> ?_)
  refine aU.draw (v:= .int .i64 ((i:Nat):Int)) rfl hf.ops.h48 (by decide) ga (fun w=>bg hf.ops.h48 _) (fun a aU ga=> ?_)
  refine aU.draw (v:= .slice (some ⟨g,i *size,none⟩) (n-i) (c-i)) rfl hf.ops.h49 (by decide) ga (fun w=>kh hf.ops.h49 hf.CD uo xW rfl rfl (by omega) (by omega) _) (fun a aU ga=> ?_)
  refine aU.last (v:=v2) rfl hf.ops.h50 (by decide) ga (uY hf.ops.h50 rfl rfl (hC _)) (fun a aU=> ?_)
  refine wp_seq (wp_region ?_)
  rw [show List.range (#[o 51,o 52]:Array Oper).size=[0,1] from rfl]
  refine aU.step (v:= .slice (some ⟨g9,0,none⟩) (n+m) G) rfl hf.ops.h51 (by decide) (bg hf.ops.h51 _) (fun a aU=> ?_)
  refine aU.step (v:= .slice (some ⟨g9,0,none⟩) (n+m) G) rfl hf.ops.h52 (by decide) (fS hf.ops.h52 _) (fun a aU=> ?_)
  refine wp_ret ?_
  show bodyPost P fn (fun x wq=>x= .returned (.slice (some ⟨g9,0,none⟩) (n+m) G)∧wq=w3) .ret a w3
  refine D5 hf.res aU (v:= .slice (some ⟨g9,0,none⟩) (n+m) G) rfl ?_
  exact ⟨rfl,rfl⟩
 exact key _ (tm3 _ _ _ 92)
theorem Ot (hf:F6 P f t ti tb el fo fn r o tail) (uo:P.info? el=some ie) (xW:ie.size=size) (hm:0<m) (hn:n≤c) (hc:c<2^63) (V3:n+m<2^63) (hi:i<n) (nq:n+m≤c) {v1 v2:Value} {w1 w2:World} (hO:(callFunc fo #[.slice (some ⟨g2,0,none⟩) m c2,.slice (some ⟨g,(i+m) *size,none⟩) (n+m-(i+m)) (c-(i+m))]).run P w= .ok (.value (.bool false)) w)
 (hB: ∀ty,(Builtin.copy_ #[t,t] ty #[.slice (some ⟨g,(i+m) *size,none⟩) (n+m-(i+m)) (c-(i+m)),.slice (some ⟨g,i *size,none⟩) (n+m-i) (c-i)]).run P {w with drawn:=w.drawn+1}= .ok v1 w1)
 (hC: ∀ty,(Builtin.copy_ #[t,t] ty #[.slice (some ⟨g,i *size,none⟩) (n+m-i) (c-i),.slice (some ⟨g2,0,none⟩) m c2]).run P w1= .ok v2 w2)
 :Calls P f #[.slice (some ⟨g,0,none⟩) n c,.int .i64 ((i:Nat):Int),.slice (some ⟨g2,0,none⟩) m c2] w fun x w'=>x= .returned (.slice (some ⟨g,0,none⟩) (n+m) c)∧w'=w2:=by
 refine calls_of_wp hf.pos hf.body ?_
 rw [hf.tmps]
 have key: ∀a:Act,Tm a 95 (ET (ET (ET (fun _=>undef) 0 (.slice (some ⟨g,0,none⟩) n c)) 1 (.int .i64 ((i:Nat):Int))) 2 (.slice (some ⟨g2,0,none⟩) m c2))→(pL r o tail).wp P (bodyPost P fn fun x w'=>x= .returned (.slice (some ⟨g,0,none⟩) (n+m) c)∧w'=w2) a w:=by
  intro a aU
  unfold pL
  refine wp_seq (wp_region ?_)
  rw [show List.range (#[o 0]:Array Oper).size=[0] from rfl]
  refine aU.step (v:= .slice none 0 0) rfl hf.ops.h0 (by decide) (fS hf.ops.h0 _) (fun a aU=> ?_)
  refine wp_seq (wp_region ?_)
  rw [show List.range (#[o 1,o 2,o 3]:Array Oper).size=[0,1,2] from rfl]
  refine aU.step (v:= .slice (some ⟨g,0,none⟩) n c) rfl hf.ops.h1 (by decide) (bg hf.ops.h1 _) (fun a aU=> ?_)
  refine aU.step (v:= .int .i64 ((i:Nat):Int)) rfl hf.ops.h2 (by decide) (bg hf.ops.h2 _) (fun a aU=> ?_)
  refine aU.step (v:= .slice (if c=i then (some ⟨g,0,none⟩) else ((some ⟨g,0,none⟩):Option Addr).map (·.add (i *size))) (n-i) (c-i)) rfl hf.ops.h3 (by decide) (uX hf.ops.h3 hf.CD uo xW rfl rfl (by omega) _) (fun a aU=> ?_)
  refine wp_seq (wp_region ?_)
  rw [show List.range (#[o 4,o 5,o 6]:Array Oper).size=[0,1,2] from rfl]
  refine aU.step (v:= .slice (some ⟨g2,0,none⟩) m c2) rfl hf.ops.h4 (by decide) (bg hf.ops.h4 _) (fun a aU=> ?_)
  refine aU.step (v:= .int .i64 ((m:Nat):Int)) rfl hf.ops.h5 (by decide) (r9 hf.ops.h5 hf.CD rfl _) (fun a aU=> ?_)
  refine aU.step (v:= .int .i64 ((m:Nat):Int)) rfl hf.ops.h6 (by decide) (fS hf.ops.h6 _) (fun a aU=> ?_)
  refine wp_seq ?_
  refine wp_seq (wp_region ?_)
  rw [show List.range (#[o 7,o 8]:Array Oper).size=[0,1] from rfl]
  refine aU.step (v:= .int .i64 ((m:Nat):Int)) rfl hf.ops.h7 (by decide) (bg hf.ops.h7 _) (fun a aU=> ?_)
  refine aU.step (v:= .bool (decide (((m:Nat):Int)=((0:Nat):Int)))) rfl hf.ops.h8 (by decide) (sa hf.ops.h8 rfl rfl _) (fun a aU=> ?_)
  refine aU.cond (b:=false) (by show Value.bool (decide (((m:Nat):Int)=((0:Nat):Int)))=_;rw [decide_eq_false (by omega)]) ?_
  simp only [Bool.false_eq_true,if_false]
  refine wp_skip ?_
  refine wp_seq (wp_region ?_)
  rw [show List.range (#[o 11,o 12,o 13]:Array Oper).size=[0,1,2] from rfl]
  refine aU.step (v:= .slice (some ⟨g,0,none⟩) n c) rfl hf.ops.Q8 (by decide) (bg hf.ops.Q8 _) (fun a aU=> ?_)
  refine aU.step (v:= .int .i64 ((n:Nat):Int)) rfl hf.ops.Q9 (by decide) (r9 hf.ops.Q9 hf.CD rfl _) (fun a aU=> ?_)
  refine aU.step (v:= .int .i64 ((n:Nat):Int)) rfl hf.ops.Ra (by decide) (fS hf.ops.Ra _) (fun a aU=> ?_)
  refine wp_seq ?_
  refine wp_seq (wp_region ?_)
  rw [show List.range (#[o 14,o 15,o 16]:Array Oper).size=[0,1,2] from rfl]
  refine aU.step (v:= .int .i64 ((i:Nat):Int)) rfl hf.ops.Rb (by decide) (bg hf.ops.Rb _) (fun a aU=> ?_)
  refine aU.step (v:= .int .i64 ((n:Nat):Int)) rfl hf.ops.Rc (by decide) (bg hf.ops.Rc _) (fun a aU=> ?_)
  refine aU.step (v:= .bool (decide (((i:Nat):Int)=((n:Nat):Int)))) rfl hf.ops.Re (by decide) (sa hf.ops.Re rfl rfl _) (fun a aU=> ?_)
  refine aU.cond (b:=false) (by show Value.bool (decide (((i:Nat):Int)=((n:Nat):Int)))=_;rw [decide_eq_false (by omega)]) ?_
  simp only [Bool.false_eq_true,if_false]
  refine wp_skip ?_
  refine wp_seq ?_
  refine wp_seq (wp_region ?_)
  rw [show List.range (#[o 21,o 22,o 23,o 24,o 25,o 26]:Array Oper).size=[0,1,2,3,4,5] from rfl]
  refine aU.step (v:= .int .i64 ((n:Nat):Int)) rfl hf.ops.We (by decide) (bg hf.ops.We _) (fun a aU=> ?_)
  refine aU.step (v:= .int .i64 ((m:Nat):Int)) rfl hf.ops.Wf (by decide) (bg hf.ops.Wf _) (fun a aU=> ?_)
  refine aU.step (v:= .int .i64 ((n+m:Nat):Int)) rfl hf.ops.Wg (by decide) (mA hf.ops.Wg rfl rfl (by omega) _) (fun a aU=> ?_)
  refine aU.step (v:= .slice (some ⟨g,0,none⟩) n c) rfl hf.ops.Wh (by decide) (bg hf.ops.Wh _) (fun a aU=> ?_)
  refine aU.step (v:= .int .i64 ((c:Nat):Int)) rfl hf.ops.Wi (by decide) (JH hf.ops.Wi hf.CD rfl _) (fun a aU=> ?_)
  refine aU.step (v:= .bool (decide (((c:Nat):Int)<(((n+m):Nat):Int)))) rfl hf.ops.Wj (by decide) (FZ hf.ops.Wj rfl rfl _) (fun a aU=> ?_)
  refine aU.cond (b:=false) (by show Value.bool (decide (((c:Nat):Int)<((n+m:Nat):Int)))=_;rw [decide_eq_false (by omega)]) ?_
  simp only [Bool.false_eq_true,if_false]
  refine wp_skip ?_
  refine wp_seq (wp_region ?_)
  rw [show List.range (#[o 53,o 54,o 55,o 56,o 57,o 58]:Array Oper).size=[0,1,2,3,4,5] from rfl]
  refine aU.step (v:= .slice (some ⟨g,0,none⟩) n c) rfl hf.ops.h53 (by decide) (bg hf.ops.h53 _) (fun a aU=> ?_)
  refine aU.step (v:= .int .i64 ((n:Nat):Int)) rfl hf.ops.h54 (by decide) (bg hf.ops.h54 _) (fun a aU=> ?_)
  refine aU.step (v:= .int .i64 ((m:Nat):Int)) rfl hf.ops.h55 (by decide) (bg hf.ops.h55 _) (fun a aU=> ?_)
  refine aU.step (v:= .int .i64 ((n+m:Nat):Int)) rfl hf.ops.h56 (by decide) (mA hf.ops.h56 rfl rfl (by omega) _) (fun a aU=> ?_)
  refine aU.step (v:= .slice (some ⟨g,0,none⟩) (n+m) c) rfl hf.ops.h57 (by decide) (F3 hf.ops.h57 hf.CD uo xW rfl rfl (by omega) _) (fun a aU=> ?_)
  refine aU.step (v:= .slice (some ⟨g,0,none⟩) (n+m) c) rfl hf.ops.h58 (by decide) (fS hf.ops.h58 _) (fun a aU=> ?_)
  refine wp_seq ?_
  refine wp_seq (wp_region ?_)
  rw [show List.range (#[o 59,o 60,o 61,o 62,o 63,o 64,o 65,o 66]:Array Oper).size=[0,1,2,3,4,5,6,7] from rfl]
  refine aU.step (v:= .slice (some ⟨g2,0,none⟩) m c2) rfl hf.ops.h59 (by decide) (bg hf.ops.h59 _) (fun a aU=> ?_)
  refine aU.step (v:= .slice (some ⟨g,0,none⟩) (n+m) c) rfl hf.ops.h60 (by decide) (bg hf.ops.h60 _) (fun a aU=> ?_)
  refine aU.step (v:= .int .i64 ((i:Nat):Int)) rfl hf.ops.h61 (by decide) (bg hf.ops.h61 _) (fun a aU=> ?_)
  refine aU.step (v:= .int .i64 ((m:Nat):Int)) rfl hf.ops.h62 (by decide) (bg hf.ops.h62 _) (fun a aU=> ?_)
  refine aU.step (v:= .int .i64 ((i+m:Nat):Int)) rfl hf.ops.Zt (by decide) (mA hf.ops.Zt rfl rfl (by omega) _) (fun a aU=> ?_)
  refine aU.step (v:= .slice (some ⟨g,(i+m) *size,none⟩) (n+m-(i+m)) (c-(i+m))) rfl hf.ops.ZR (by decide) (kh hf.ops.ZR hf.CD uo xW rfl rfl (by omega) (by omega) _) (fun a aU=> ?_)
  refine aU.step (v:= .bool false) rfl hf.ops.h65 (by decide) (Q6 hf.ops.h65 rfl rfl rfl hO) (fun a aU=> ?_)
  refine aU.step (v:= .bool (!false)) rfl hf.ops.h66 (by decide) (Q5 hf.ops.h66 rfl _) (fun a aU=> ?_)
  refine aU.cond (b:=true) rfl ?_
  simp only [if_true]
  refine wp_seq (JK hf.mix hf.ops.d15 (k:=8) rfl fun ga=> ?_)
  refine aU.draw (v:= .slice (some ⟨g,0,none⟩) (n+m) c) rfl hf.ops.h67 (by decide) ga (fun w=>bg hf.ops.h67 _) (fun a aU ga=> ?_)
  refine aU.draw (v:= .int .i64 ((i:Nat):Int)) rfl hf.ops.h68 (by decide) ga (fun w=>bg hf.ops.h68 _) (fun a aU ga=> ?_)
  refine aU.draw (v:= .int .i64 ((m:Nat):Int)) rfl hf.ops.h69 (by decide) ga (fun w=>bg hf.ops.h69 _) (fun a aU ga=> ?_)
  refine aU.draw (v:= .int .i64 ((i+m:Nat):Int)) rfl hf.ops.h70 (by decide) ga (fun w=>mA hf.ops.h70 rfl rfl (by omega) _) (fun a aU ga=> ?_)
  refine aU.draw (v:= .slice (some ⟨g,(i+m) *size,none⟩) (n+m-(i+m)) (c-(i+m))) rfl hf.ops.h71 (by decide) ga (fun w=>kh hf.ops.h71 hf.CD uo xW rfl rfl (by omega) (by omega) _) (fun a aU ga=> ?_)
  refine aU.draw (v:= .slice (some ⟨g,0,none⟩) (n+m) c) rfl hf.ops.h72 (by decide) ga (fun w=>bg hf.ops.h72 _) (fun a aU ga=> ?_)
  refine aU.draw (v:= .int .i64 ((i:Nat):Int)) rfl hf.ops.h73 (by decide) ga (fun w=>bg hf.ops.h73 _) (fun a aU ga=> ?_)
  refine aU.draw (v:= .slice (some ⟨g,i *size,none⟩) (n+m-i) (c-i)) rfl hf.ops.h74 (by decide) ga (fun w=>kh hf.ops.h74 hf.CD uo xW rfl rfl (by omega) (by omega) _) (fun a aU ga=> ?_)
  refine aU.last (v:=v1) rfl hf.ops.h75 (by decide) ga (uY hf.ops.h75 rfl rfl (hB _)) (fun a aU=> ?_)
  refine wp_seq (wp_region ?_)
  rw [show List.range (#[o 76,o 77,o 78,o 79,o 80]:Array Oper).size=[0,1,2,3,4] from rfl]
  refine aU.step (v:= .slice (some ⟨g,0,none⟩) (n+m) c) rfl hf.ops.h76 (by decide) (bg hf.ops.h76 _) (fun a aU=> ?_)
  refine aU.step (v:= .int .i64 ((i:Nat):Int)) rfl hf.ops.h77 (by decide) (bg hf.ops.h77 _) (fun a aU=> ?_)
  refine aU.step (v:= .slice (some ⟨g,i *size,none⟩) (n+m-i) (c-i)) rfl hf.ops.h78 (by decide) (kh hf.ops.h78 hf.CD uo xW rfl rfl (by omega) (by omega) _) (fun a aU=> ?_)
  refine aU.step (v:= .slice (some ⟨g2,0,none⟩) m c2) rfl hf.ops.h79 (by decide) (bg hf.ops.h79 _) (fun a aU=> ?_)
  refine aU.step (v:=v2) rfl hf.ops.h80 (by decide) (uY hf.ops.h80 rfl rfl (hC _)) (fun a aU=> ?_)
  refine wp_seq (wp_region ?_)
  rw [show List.range (#[o 81,o 82]:Array Oper).size=[0,1] from rfl]
  refine aU.step (v:= .slice (some ⟨g,0,none⟩) (n+m) c) rfl hf.ops.h81 (by decide) (bg hf.ops.h81 _) (fun a aU=> ?_)
  refine aU.step (v:= .slice (some ⟨g,0,none⟩) (n+m) c) rfl hf.ops.h82 (by decide) (fS hf.ops.h82 _) (fun a aU=> ?_)
  refine wp_ret ?_
  show bodyPost P fn (fun x wq=>x= .returned (.slice (some ⟨g,0,none⟩) (n+m) c)∧wq=w2) .ret a w2
  refine D5 hf.res aU (v:= .slice (some ⟨g,0,none⟩) (n+m) c) rfl ?_
  exact ⟨rfl,rfl⟩
 exact key _ (tm3 _ _ _ 92)
end
end Dn
/-
  What slices.Insert does to a slice of its own. Conditions: none.
-/
set_option linter.unusedSimpArgs false
set_option linter.unusedVariables false
namespace Dn
open Go
section
variable {key:Nat→Nat} {φ:Ph} {size:Nat}
theorem aQ.take {xs:List MV}: ∀{cs:List Value} (i:Nat),aQ key φ size cs xs→aQ key φ size (cs.take (i *size)) (xs.take i):=by
 induction xs with
 |nil=>intro cs i h;cases h;simp [aQ]
 |cons x xs ih=>
  intro cs i h
  obtain ⟨v,q,rfl,h1,h2,h3⟩:=h
  cases i with
  |zero=>simp [aQ]
  |succ i=>
   refine ⟨v,q.take (i *size),?_,h1,h2,ih i h3⟩
   rw [Nat.add_mul,Nat.one_mul,Nat.add_comm,List.take_append,h1]
   congr 1
   ·exact List.take_of_length_le (by omega)
   ·congr 1;omega
theorem aQ.drop {xs:List MV}: ∀{cs:List Value} (i:Nat),aQ key φ size cs xs→aQ key φ size (cs.drop (i *size)) (xs.drop i):=by
 induction xs with
 |nil=>intro cs i h;cases h;simp [aQ]
 |cons x xs ih=>
  intro cs i h
  cases i with
  |zero=>simpa using h
  |succ i=>
   obtain ⟨v,q,rfl,h1,h2,h3⟩:=h
   have:=ih i h3
   rw [Nat.add_mul,Nat.one_mul,Nat.add_comm,List.drop_append,h1,List.drop_of_length_le (by omega),List.nil_append,Nat.add_sub_cancel_left]
   simpa using this
end
section
variable {P:Program} {c:Ctx} {f:Nat} {W W':World} {φ:Ph} {Z:Nat→Prop} {v0 v':Value}
theorem D6 {ty:Nat} {E:TI} {n:Nat} {cells:List Value} {rs:List MV} (hz: ∀b,W.heap.size≤b→Z b) (gK:uq φ W) (hE:c.ti ty=some E) (nV:E.bX=[]) (DZ:c.ln (c.key f)=ty)
 (hold: ∀b,b<W.heap.size→some b≠v0.ownBlock→W'.heap[b]? =W.heap[b]?) (lh:W.heap.size≤W'.heap.size) (s8:Rest W W')
 (KH: ∀b,v0.ownBlock=some b→Z b∧ ∀off,φ b off=none) (cC:W'.ownsRow 0 ty E.size v' n cells) (hn:rs.length=n) (jz:aQ c.key φ E.size cells rs)
 (Hx: ∀b,v'.ownBlock=some b→v0.ownBlock=some b∨W.heap.size≤b): ∃φ',Trans Z φ W φ' W'∧uq φ' W'∧iu c Z φ' W' (c.key f) v' (.fresh rs):=by
 refine ⟨φ,⟨.refl _,?_,fun _ _ _=>rfl,lh,s8⟩,?_,?_⟩
 ·intro b hb cA
  exact hold b cA (fun he=>hb (KH b he.symm).1)
 ·intro b off u X1
  have h1:=gK b off u X1
  have cA:=World.block_lt_of_cell? W _ h1
  rw [World.cell?_of_block (hold b cA (fun he=>by rw [(KH b he.symm).2 off] at X1;cases X1))]
  exact h1
 ·show b9 c (aX.plain Z) (lK c.key φ) W' v' ⟨c.ln (c.key f),false,rs⟩
  rw [DZ]
  refine ⟨E,cells,hE,nV,by rw [hn];exact cC,jz,fun aM hb=> ?_⟩
  rcases Hx aM hb with h|h
  ·exact ⟨(KH aM h).1,fun off u hu=>(by have hu:φ aM off=some u:=hu;rw [(KH aM h).2 off] at hu;cases hu),fun hc=>hc.elim⟩
  ·refine ⟨hz aM h,fun off u hu=> ?_,fun hc=>hc.elim⟩
   have:=World.block_lt_of_cell? W _ (gK _ _ _ hu)
   exact absurd this (by show¬aM<W.heap.size;omega)
theorem Rg {A c9:List Value} {cells news:List Value} {p q r:Nat} (hA:A.length=c9.length) (hp:p+news.length=q) (hc:cells.length=r) (Mb:p≤r) (DA:r+news.length≤c9.length)
 (h1:A.take p=cells.take p) (h2:(A.drop q).take (r-p)=cells.drop p):(A.take p++news++A.drop q).take (r+news.length)=cells.take p++news++cells.drop p:=by
 have hl:(A.take p).length=p:=by rw [List.length_take];omega
 rw [List.take_append,List.length_append,hl,hp,List.take_of_length_le (by rw [List.length_append,hl];omega),h1]
 congr 1
 rw [show r+news.length-q=r-p by omega]
 exact h2
theorem Lc {t ti tb el fo:Nat} {fn:Func} {r:Nat→Nat} {o:Nat→Oper} {tail:Code} {I E:TI} {xs ys:List MV} {i:Nat} (hf:F6 P f t ti tb el fo fn r o tail) (hT:fI P c.ti) (hI:c.tv t=some I) (hL:I.rN=true) (hE:c.tv I.elem=some E) (ov:1≤E.bytes)
 (Sc:el=I.elem) (jy:P.underlying ti=some (.int .i64)) (DZ:c.ln (c.key f)=I.elem) (hg:c.dn (c.key f)=true)
 (hov: ∀args w,(callFunc fo args).run P w=((Extern.SlicesOverlaps.overlaps #[t,t] #[tb] args).run P w).andThen fun v w'=> .ok (.value v) w')
 (hi:i≤xs.length) (hys:ys≠[]) (eY:(xs.length+ys.length) *E.bytes≤2^46):jD P c f [.fresh xs,.i .i64 i,.fresh ys] (.fresh (xs.take i++ys++xs.drop i)):=by
 subst Sc
 obtain ⟨hIt,Qk⟩:=bl hI
 obtain ⟨lS,nV⟩:=bl hE
 obtain ⟨hu,E2,qJ,_,dk⟩:=TI.iq (hT t I hIt) hL
 rw [lS] at qJ
 cases qJ
 obtain ⟨ie,z,uo,xW,Nh,hz0,L9⟩:=ou (hT _ E lS) nV
 intro φ W Z vs hz dD gK
 simp only [dX,hg,if_true] at dD
 obtain ⟨v0,v1,v2,xs',m1,ys',rfl,Js,F0,A1,F2,cm⟩:=dD.resolve_right (by
  rintro (⟨_,_,_,_,_,m2,_,h1,h2,_⟩|⟨pos,_,_,_,_,_,_,h1,_⟩)
  ·simp only [List.cons.injEq,and_true] at h1
   rw [←h1.2.2] at h2;simp [MV.one] at h2
  ·rcases pos with _|_|_|pos<;>simp at h1)
 simp only [List.cons.injEq,MV.fresh.injEq,and_true] at Js
 obtain ⟨rfl,rfl,rfl⟩:=Js
 have Hp:v1= .int .i64 (i:Int):=by
  obtain ⟨_,h⟩:=A1
  generalize rR:[v1]=l at h
  cases h;simpa using rR
 subst Hp
 rw [DZ] at F0 F2
 obtain ⟨I0,cells,ZS,_,CE,CF,SN⟩:=F0
 have ZS:c.ti I.elem=some I0:=ZS
 rw [lS] at ZS
 cases ZS
 obtain ⟨I2,news,GU,_,Ch,uE,ae7⟩:=F2
 have GU:c.ti I.elem=some I2:=GU
 rw [lS] at GU
 cases GU
 have CE:W.ownsRow 0 I.elem E.size v0 xs.length cells:=CE
 have Ch:W.ownsRow 0 I.elem E.size v2 ys.length news:=Ch
 have CF:aQ c.key φ E.size cells xs:=CF
 have uE:aQ c.key φ E.size news ys:=uE
 have KH: ∀b,v0.ownBlock=some b→Z b∧ ∀off,φ b off=none:=by
  intro b hb
  refine ⟨(SN b hb).1,fun off=> ?_⟩
  cases h:φ b off with
  |none=>rfl
  |some u=>have:=((SN b hb).2.1 off u h).1;cases this
 have hm:0<ys.length:=List.length_pos_iff.2 hys
 have Cj:news.length=ys.length *E.size:=uE.length
 have lj:cells.length=xs.length *E.size:=CF.length
 have hlen:xs.length+ys.length≤2^46:=Nat.le_trans (Nat.le_mul_of_pos_right _ ov) eY
 obtain ⟨g2,c2,Fi,rfl,Ma,aho,Xa,GX,ahp⟩: ∃g2 c2 Fi,v2= .slice (some ⟨g2,0,none⟩) ys.length c2∧W.heap[g2]? =some (.cells Fi I.elem (0,0))∧ys.length≤c2∧c2≤maxLen∧Fi.size=c2 *E.size∧Fi.toList.take (ys.length *E.size)=news:=by
  rcases Ch.2 with ⟨_,h0⟩|⟨g2,c2,Fi,h1,_,h3,h4,h5,h6,h7⟩
  ·omega
  ·exact ⟨g2,c2,Fi,h1,h3,h4,h5,h6,h7⟩
 have abT:=aN Ma
 have Ou: ∀{w:World},(w.heap[g2]? =W.heap[g2]?)→ ∀(j:Nat) (u:Value),news[j]? =some u→w.cell? ((⟨g2,0,none⟩:Addr).add j)=some u:=by
  intro w hw j u hj
  have:=Ch.cells (g:=g2) rfl j u hj
  rw [Addr.add_mid] at this⊢
  rw [World.cell?_of_block hw];exact this
 have aT: ∀g,v0.ownBlock=some g→ ∀{w:World},(w.heap[g]? =W.heap[g]?)→ ∀(j:Nat) (u:Value),cells[j]? =some u→w.cell? ((⟨g,0,none⟩:Addr).add j)=some u:=by
  intro g hg w hw j u hj
  have:=CE.cells (g:=g) hg j u hj
  rw [Addr.add_mid] at this⊢
  rw [World.cell?_of_block hw];exact this
 have bw:(callFunc f [v0,.int .i64 (i:Int),.slice (some ⟨g2,0,none⟩) ys.length c2].toArray).run P W= .ok (.enter f #[v0,.int .i64 (i:Int),.slice (some ⟨g2,0,none⟩) ys.length c2]) W:=by
  have Dz: ¬fn.name= "runtime.NumGoroutine" :=by simpa using hf.name
  simp [callFunc,hf.pos,Dz,hf.body]
 unfold eZ
 rw [bw]
 have Rh:(xs.take i++ys++xs.drop i).length=xs.length+ys.length:=by simp;omega
 have zM:aQ c.key φ E.size (cells.take (i *E.size)++news++cells.drop (i *E.size)) (xs.take i++ys++xs.drop i):=((CF.take i).append uE).append (CF.drop i)
 by_cases qo:i=xs.length
 ·
  have qU:Src (lK c.key φ) W E.size (.slice (some ⟨g2,0,none⟩) ys.length c2) ys news:=⟨uE,_,_,rfl,by simp,fun x hx j u hj=>by cases hx;exact Ou rfl j u hj⟩
  have oJ:cells.take (i *E.size)++news++cells.drop (i *E.size)=cells++news:=by
   rw [qo,←lj,List.take_length,List.drop_length,List.append_nil]
  rw [oJ] at zM
  have fin: ∀v' W',WX W W' I.elem E.size v0 v' xs.length ys.length cells news→ ∃φ',Trans Z φ W φ' W'∧uq φ' W'∧iu c Z φ' W' (c.key f) v' (.fresh (xs.take i++ys++xs.drop i)):=by
   intro v' W' ox
   refine D6 (v0:=v0) hz gK lS nV DZ ox.nT ox.size ox.rest KH ox.own Rh zM ?_
   intro b hb
   rcases ox.place with h|h
   ·left;rw [←h];exact hb
   ·right;rw [h] at hb;cases hb;exact Nat.le_refl _
  obtain ⟨v',W',hr,ox⟩:=tH (P:=P) (c:=c) (ty:=0) hu lS nV dk hT ov CE (qU.apx hu) eY
  have Tk: ∀ty,(Builtin.append_ #[t,t] ty #[v0,.slice (some ⟨g2,0,none⟩) ys.length c2]).run P W= .ok v' W':=fun ty=>hr
  have abU: ∃ad c0,v0= .slice ad xs.length c0∧xs.length≤c0∧c0≤maxLen:=by
   rcases CE.2 with ⟨h1,h0⟩|⟨g,c0,c9,h1,_,h3,h4,h5,_⟩
   ·exact ⟨none,0,by rw [h1,h0],by omega,by omega⟩
   ·exact ⟨_,c0,h1,h4,h5⟩
  obtain ⟨ad,c0,rfl,WY,EM⟩:=abU
  refine (Rf hf uo xW hm WY (by unfold maxLen at EM;omega) (by omega) qo Tk).mono ?_
  rintro x rQ ⟨rfl,rfl⟩
  exact ⟨_,rfl,fin _ _ ox⟩
 ·have qo:i<xs.length:=by omega
  obtain ⟨g,c0,c9,rfl,X6,WY,EM,qR,Je⟩: ∃g c0 c9,v0= .slice (some ⟨g,0,none⟩) xs.length c0∧W.heap[g]? =some (.cells c9 I.elem (0,0))∧xs.length≤c0∧c0≤maxLen∧c9.size=c0 *E.size∧c9.toList.take (xs.length *E.size)=cells:=by
   rcases CE.2 with ⟨_,h0⟩|⟨g,c0,c9,h1,_,h3,h4,h5,h6,h7⟩
   ·omega
   ·exact ⟨g,c0,c9,h1,h3,h4,h5,h6,h7⟩
  have TN:=aN X6
  have Mh:g≠g2:=fun h=>cm g rfl (by rw [h];rfl)
  have nZ:i *E.size≤xs.length *E.size:=Nat.mul_le_mul_right _ hi
  have him:(i+ys.length) *E.size=i *E.size+news.length:=by rw [Nat.add_mul,Cj]
  have V3:(xs.length+ys.length) *E.size=xs.length *E.size+news.length:=by rw [Nat.add_mul,Cj]
  have P2:(cells.drop (i *E.size)).length=(xs.length-i) *E.size:=by rw [List.length_drop,lj,Nat.sub_mul]
  have ahq:(xs.length-i) *E.size=xs.length *E.size-i *E.size:=Nat.sub_mul _ _ _
  have SO: ∀{w:World},(w.heap[g]? =W.heap[g]?)→ ∀(j:Nat) (u:Value),(cells.drop (i *E.size))[j]? =some u→w.cell? ((⟨g,i *E.size,none⟩:Addr).add j)=some u:=by
   intro w hw j u hj
   rw [List.getElem?_drop] at hj
   have:=aT g rfl hw _ u hj
   rw [Addr.add_mid] at this⊢
   rwa [Nat.zero_add] at this
  have Kr: ∀u∈cells.drop (i *E.size),u.oneCell'=true:=fun u hu=>CF.yY u (List.mem_of_mem_drop hu)
  have X7:Rest W {W with drawn:=W.drawn+1}:=⟨rfl,rfl,rfl,fun _=>rfl⟩
  by_cases nq:c0<xs.length+ys.length
  ·have hk:i+(xs.length+ys.length-i)=xs.length+ys.length:=by omega
   obtain ⟨G,hG⟩: ∃G,G=grownCap W (xs.length+ys.length) c0 I.elem:=⟨_,rfl⟩
   have hGn:xs.length+ys.length≤G:=by rw [hG];exact grownCap_ge W _ _ _
   have hGm:G≤maxLen:=by rw [hG];exact grownCap_le_maxLen W _ _ _ (by unfold maxLen;omega)
   obtain ⟨D7,Us⟩: ∃D7:Array Value,D7=(cells.take (i *E.size)).toArray++Builtin.zeroCells z.cells (xs.length+ys.length-i)++Builtin.zeroCells z.cells (G-(xs.length+ys.length)):=⟨_,rfl⟩
   have hRl:D7.size=G *E.size:=by
    rw [Us]
    simp only [Array.size_append,List.size_toArray,List.length_take,Builtin.zeroCells,Array.size_map,Array.size_range,L9]
    rw [Nat.min_eq_left (by rw [lj];exact nZ),←Nat.add_mul,←Nat.add_mul]
    congr 1;omega
   have hRt:D7.toList.take (i *E.size)=cells.take (i *E.size):=by
    rw [Us]
    simp only [Array.toList_append,List.append_assoc]
    have hl:(cells.take (i *E.size)).length=i *E.size:=by rw [List.length_take,lj];exact Nat.min_eq_left nZ
    rw [List.take_append_of_le_length (by omega),List.take_of_length_le (by omega)]
   have hA: ∀ty,(Builtin.append_ #[t,ti] ty #[.slice (some ⟨g,0,none⟩) i c0,.int .i64 ((xs.length+ys.length-i:Nat):Int)]).run P W= .ok (.slice (some ⟨W.heap.size,0,none⟩) (xs.length+ys.length) G) (W.drew.alloc (.cells D7 I.elem)):=fun ty=>by
    have hold:(Builtin.firstCells ie.size i (.slice (some ⟨g,0,none⟩) i c0)).run P W.drew= .ok (cells.take (i *E.size)).toArray W.drew:=by
     refine run_firstCells_some W.drew ie.size i ⟨g,0,none⟩ i c0 _ (by rw [xW,List.length_take,lj];exact Nat.min_eq_left nZ) (fun j v hj=> ?_)
     rw [List.getElem?_take] at hj
     split at hj
     ·exact aT g rfl rfl j v hj
     ·cases hj
    have h:=Lib.run_append_grow_zeros W t ti ty I.elem ie z .i64 .i64 hu jy uo hz0 (some ⟨g,0,none⟩) i c0 (cells.take (i *E.size)) hold (xs.length+ys.length-i) (by omega) (by rw [xW];exact dk) (by omega) (by omega)
     (by rw [Nh];exact Nat.le_trans (Nat.mul_le_mul_right _ (by omega:xs.length+ys.length-i≤xs.length+ys.length)) (Nat.le_trans eY (by omega))) (by rw [Nh,hk];exact growslice_fits nq (Nat.le_trans eY (by omega)))
    rw [hk,←hG,←Us] at h
    exact h
   have hg9:(W.drew.alloc (.cells D7 I.elem)).heap[W.heap.size]? =some (.cells D7 I.elem (0,0)):=eB W.drew _
   have vU: ∀b,b<W.heap.size→(W.drew.alloc (.cells D7 I.elem)).heap[b]? =W.heap[b]? :=fun b hb=>kA W.drew _ b hb
   have hnG:(xs.length+ys.length) *E.size≤D7.size:=by rw [hRl];exact Nat.mul_le_mul_right _ hGn
   obtain ⟨RA,hRA⟩: ∃RA:List Value,RA=D7.toList.take (i *E.size)++news++D7.toList.drop (i *E.size+news.length):=⟨_,rfl⟩
   have X8:RA.length=D7.size:=by
    rw [hRA]
    simp only [List.length_append,List.length_take,List.length_drop,Array.length_toList]
    omega
   have hB: ∀ty,(Builtin.copy_ #[t,t] ty #[.slice (some ⟨W.heap.size,i *E.size,none⟩) (xs.length+ys.length-i) (G-i),.slice (some ⟨g2,0,none⟩) ys.length c2]).run P (W.drew.alloc (.cells D7 I.elem))=
    .ok (goInt ((ys.length:Nat):Int)) (World.setRow (W.drew.alloc (.cells D7 I.elem)) W.heap.size RA.toArray):=fun ty=>by
    rw [hRA]
    exact kD (size:=E.size) hu uo xW hg9 (by simp only [Nat.min_def];split<;>omega) Cj (Ou (vU g2 abT)) (by omega) uE.yY
   have Ut:=setRow_heap (W.drew.alloc (.cells D7 I.elem)) W.heap.size D7 RA.toArray I.elem (0,0) hg9
   obtain ⟨W2,ZT⟩: ∃W2,W2=World.setRow (W.drew.alloc (.cells D7 I.elem)) W.heap.size RA.toArray:=⟨_,rfl⟩
   have Ri: ∀b,b<W.heap.size→W2.heap[b]? =W.heap[b]? :=fun b hb=>by rw [ZT,setRow_other _ _ _ _ (by omega)];exact vU b hb
   have Uu:Rest W W2:=by
    rw [ZT]
    exact (show Rest W W.drew from ⟨rfl,rfl,rfl,fun _=>rfl⟩).trans ((Rest.alloc W.drew D7 I.elem).trans (Rest.setRow _ _ _))
   have aht:W2.heap.size=W.heap.size+1:=by rw [ZT,setRow_size];exact Array.size_push _
   rw [←ZT] at hB Ut
   have hC:=fun ty=>kD (P:=P) (dT:=t) (sT:=t) (ty:=ty) (size:=E.size) (Q7:=xs.length+ys.length-(i+ys.length)) (Uq:=G-(i+ys.length)) (kc:=xs.length-i) (qD:=c0-i) (k:=xs.length-i) (o:=(i+ys.length) *E.size) (a:=⟨g,i *E.size,none⟩) (w:={W2 with drawn:=W2.drawn+1}) hu uo xW Ut (by simp only [Nat.min_def];split<;>omega) P2
    (SO (Ri g TN)) (by simp only [List.size_toArray];rw [X8,him,P2];omega) Kr
   refine (Oq hf uo xW hm WY (by unfold maxLen at EM;omega) (by omega) qo nq hGn hA hB hC).mono ?_
   rintro x rQ ⟨rfl,rfl⟩
   refine ⟨_,rfl,?_⟩
   refine D6 (v0:= .slice (some ⟨g,0,none⟩) xs.length c0) (n:=xs.length+ys.length) (cells:=cells.take (i *E.size)++news++cells.drop (i *E.size)) hz gK lS nV DZ ?_ ?_ ?_ KH ?_ Rh zM (fun b hb=> .inr (by cases hb;exact Nat.le_refl _))
   ·intro b hb cm
    rw [setRow_other _ _ _ _ (by omega)]
    exact Ri b hb
   ·rw [setRow_size];show W.heap.size≤W2.heap.size;omega
   ·exact Uu.trans ((show Rest W2 {W2 with drawn:=W2.drawn+1} from ⟨rfl,rfl,rfl,fun _=>rfl⟩).trans (Rest.setRow _ _ _))
   ·refine ⟨by rw [zM.length,Rh],.inr ⟨W.heap.size,G,_,rfl,Nat.zero_le _,setRow_heap {W2 with drawn:=W2.drawn+1} W.heap.size RA.toArray _ I.elem (0,0) Ut,hGn,hGm,?_,?_⟩⟩
    ·simp only [List.size_toArray,List.length_append,List.length_take,List.length_drop]
     rw [X8,←hRl]
     omega
    ·have abY:RA.take ((i+ys.length) *E.size)=cells.take (i *E.size)++news:=by
      have hl:(D7.toList.take (i *E.size)++news).length=(i+ys.length) *E.size:=by rw [List.length_append,List.length_take,Array.length_toList,him];omega
      rw [hRA,List.take_append_of_le_length (by omega),List.take_of_length_le (by omega),hRt]
     rw [abY]
     have uB:(cells.take (i *E.size)++news++cells.drop (i *E.size)).length=(xs.length+ys.length) *E.size:=by rw [zM.length,Rh]
     rw [←uB]
     exact List.take_left
  ·have nq:xs.length+ys.length≤c0:=by omega
   have Zq:c9.toList.length=c9.size:=Array.length_toList
   have DA:(xs.length+ys.length) *E.size≤c9.size:=by rw [qR];exact Nat.mul_le_mul_right _ nq
   have hO:(callFunc fo #[.slice (some ⟨g2,0,none⟩) ys.length c2,.slice (some ⟨g,(i+ys.length) *E.size,none⟩) (xs.length+ys.length-(i+ys.length)) (c0-(i+ys.length))]).run P W= .ok (.value (.bool false)) W:=by
    rw [hov,Lib.run_overlaps_apart W t tb I.elem hu E.size (fun w=>by simp [Go.sizeOf,typeInfo,uo,xW]) ⟨g2,0,none⟩ ⟨g,(i+ys.length) *E.size,none⟩ _ _ _ _ (Ne.symm Mh) I.elem I.elem Fi.size c9.size (by simp [World.shape?,Ma]) (by simp [World.shape?,X6])
     (by rw [qR];exact Nat.ne_of_gt (Nat.mul_pos (by omega) dk)) (by simp [World.frozen?,Ma]) (by simp [World.frozen?,Ma])]
    rfl
   let R1:List Value:=c9.toList.take ((i+ys.length) *E.size)++cells.drop (i *E.size)++c9.toList.drop ((i+ys.length) *E.size+(cells.drop (i *E.size)).length)
   have hR1:R1.length=c9.size:=by
    simp only [R1,List.length_append,List.length_take,List.length_drop,Array.length_toList]
    rw [P2] at *
    omega
   have hB: ∀ty,(Builtin.copy_ #[t,t] ty #[.slice (some ⟨g,(i+ys.length) *E.size,none⟩) (xs.length+ys.length-(i+ys.length)) (c0-(i+ys.length)),.slice (some ⟨g,i *E.size,none⟩) (xs.length+ys.length-i) (c0-i)]).run P {W with drawn:=W.drawn+1}=
    .ok (goInt ((xs.length-i:Nat):Int)) (World.setRow {W with drawn:=W.drawn+1} g R1.toArray):=fun ty=>
    kD (size:=E.size) hu uo xW (w:={W with drawn:=W.drawn+1}) X6 (by simp only [Nat.min_def];split<;>omega) P2 (SO rfl) (by rw [him,P2];omega) Kr
   have ab0:(World.setRow {W with drawn:=W.drawn+1} g R1.toArray).heap[g]? =some (.cells R1.toArray I.elem (0,0)):=setRow_heap {W with drawn:=W.drawn+1} g c9 R1.toArray I.elem (0,0) X6
   have Ri: ∀b,b≠g→(World.setRow {W with drawn:=W.drawn+1} g R1.toArray).heap[b]? =W.heap[b]? :=fun b hb=>setRow_other {W with drawn:=W.drawn+1} g b R1.toArray hb
   have hC:=fun ty=>kD (P:=P) (dT:=t) (sT:=t) (ty:=ty) (size:=E.size) (Q7:=xs.length+ys.length-i) (Uq:=c0-i) (kc:=ys.length) (qD:=c2) (k:=ys.length) (o:=i *E.size) (a:=⟨g2,0,none⟩) hu uo xW ab0 (by simp only [Nat.min_def];split<;>omega) Cj
    (Ou (Ri g2 (Ne.symm Mh))) (by simp only [List.size_toArray];rw [hR1];omega) uE.yY
   refine (Ot hf uo xW hm WY (by unfold maxLen at EM;omega) (by omega) qo nq hO hB hC).mono ?_
   rintro x rQ ⟨rfl,rfl⟩
   refine ⟨_,rfl,?_⟩
   rw [setRow_setRow]
   have s8:Rest W (World.setRow {W with drawn:=W.drawn+1} g (R1.toArray.toList.take (i *E.size)++news++R1.toArray.toList.drop (i *E.size+news.length)).toArray):=X7.trans (Rest.setRow _ _ _)
   refine D6 (v0:= .slice (some ⟨g,0,none⟩) xs.length c0) (n:=xs.length+ys.length) (cells:=cells.take (i *E.size)++news++cells.drop (i *E.size)) hz gK lS nV DZ ?_ (by simp) s8 KH ?_ Rh zM (fun b hb=> .inl hb)
   ·intro b hb cm
    refine setRow_other {W with drawn:=W.drawn+1} g b _ (fun h=>cm ?_)
    rw [h];rfl
   ·refine ⟨by rw [zM.length,Rh],.inr ⟨g,c0,_,rfl,Nat.zero_le _,setRow_heap {W with drawn:=W.drawn+1} g c9 _ I.elem (0,0) X6,nq,EM,?_,?_⟩⟩
    ·simp only [List.size_toArray,List.length_append,List.length_take,List.length_drop]
     rw [hR1,←qR]
     omega
    ·rw [V3]
     refine Rg (c9:=c9.toList) (r:=xs.length *E.size) (by simpa using hR1) rfl lj nZ (by simp only [Array.length_toList];omega) ?_ ?_
     ·show R1.take (i *E.size)=_
      rw [←Je,List.take_take,Nat.min_eq_left nZ]
      simp only [R1]
      rw [List.append_assoc,List.take_append_of_le_length (by rw [List.length_take,Zq];omega),List.take_take,Nat.min_eq_left (by omega)]
     ·show (R1.drop (i *E.size+news.length)).take _=_
      simp only [R1]
      have hl:(c9.toList.take ((i+ys.length) *E.size)).length=i *E.size+news.length:=by rw [List.length_take,Zq];omega
      rw [List.append_assoc,←hl,List.drop_left,List.take_append_of_le_length (by omega),List.take_of_length_le (by omega)]
end
end Dn
/-
  slices.Delete of the library, walked. Conditions: none.
-/
set_option linter.unusedSimpArgs false
set_option linter.unusedVariables false
namespace Dn
open Go
structure JL (o:Oper) (op:Op):Prop where
 dst:o.dst=none
 op:o.op=op
 guard:o.guard=none
section
variable {P:Program} {Q:Exit→Act→World→Prop} {ops:Array Oper} {o:Oper} {a:Act} {w w':World} {n:Nat} {σ:Nat→Value}
def Ov (ops:Array Oper):Nat→Nat→Array Bool→Bool
 |0,i,listed=>(Region.ready .any ops listed==[i])&&(Region.ready .any ops (listed.setIfInBounds i true)==[i+1])&&(Region.ready .any ops ((listed.setIfInBounds i true).setIfInBounds (i+1) true)).isEmpty
 |k+1,i,listed=>Region.free .any ops listed i&&(Region.ready .any ops listed).contains i&&Ov ops k (i+1) (listed.setIfInBounds i true)
def Uv (ops:Array Oper):Bool:=Region.noSelect ops&&Nat.blt 1 ops.size&&Ov ops (ops.size-2) 0 (Array.replicate ops.size false)
end
structure ab1 (t ti:Nat) (o:Nat→Oper):Prop where
 h0:aF (o 0) 6 (.assign (.const (.slice none 0 0)))
 h1:aF (o 1) 8 (.move (.tmp 0))
 h2:aF (o 2) 9 (.move (.tmp 1))
 h3:aF (o 3) 10 (.move (.tmp 2))
 h4:aF (o 4) 11 (.move (.tmp 0))
 h5:aF (o 5) 12 (.call {callee:= .builtin .len,args:= #[.tmp 11],argTypes:= #[t]})
 h6:aF (o 6) 13 (.slice t (.tmp 8) (some (.tmp 9)) (some (.tmp 10)) (some (.tmp 12)))
 h7:aF (o 7) 14 (.move (.tmp 1))
 h8:aF (o 8) 15 (.move (.tmp 2))
 h9:aF (o 9) 16 (.binOp .eql ti (.tmp 14) (.tmp 15) ti)
 T3:aF (o 10) 17 (.move (.tmp 0))
 Q8:aF (o 11) 6 (.assign (.tmp 17))
 Q9:aF (o 12) 18 (.move (.tmp 0))
 Ra:aF (o 13) 19 (.call {callee:= .builtin .len,args:= #[.tmp 18],argTypes:= #[t]})
 Rb:aF (o 14) 7 (.assign (.tmp 19))
 Rc:aF (o 15) 20 (.move (.tmp 0))
 Re:aF (o 16) 21 (.move (.tmp 1))
 X3:aF (o 17) 22 (.slice t (.tmp 20) none (some (.tmp 21)) none)
 ZL:aF (o 18) 23 (.move (.tmp 0))
 ZM:aF (o 19) 24 (.move (.tmp 2))
 ZN:aF (o 20) 25 (.slice t (.tmp 23) (some (.tmp 24)) none none)
 We:aF (o 21) 26 (.call {callee:= .builtin .append,args:= #[.tmp 22,.tmp 25],argTypes:= #[t,t]})
 Wf:aF (o 22) 0 (.assign (.tmp 26))
 Wg:aF (o 23) 27 (.move (.tmp 0))
 Wh:aF (o 24) 28 (.move (.tmp 0))
 Wi:aF (o 25) 29 (.call {callee:= .builtin .len,args:= #[.tmp 28],argTypes:= #[t]})
 Wj:aF (o 26) 30 (.move (.tmp 7))
 ZO:aF (o 27) 31 (.slice t (.tmp 27) (some (.tmp 29)) (some (.tmp 30)) none)
 ZP:JL (o 28) (.call {callee:= .builtin .clear,args:= #[.tmp 31],argTypes:= #[t]})
 ZQ:aF (o 29) 32 (.move (.tmp 0))
 X4:aF (o 30) 6 (.assign (.tmp 32))
 d5:Uv #[o 15,o 16,o 17,o 18,o 19,o 20,o 21,o 22]=true
section
variable {P:Program} {f t ti el:Nat} {fn:Func} {r:Nat→Nat} {o:Nat→Oper} {ie:TypeInfo} {size n c i j g:Nat} {ad:Option Addr} {w:World}
end
section
variable {P:Program} {c:Ctx} {f:Nat}
end
end Dn
/-
  slices.IndexFunc and slices.DeleteFunc of the library, walked, with whatever function. Conditions: none.
-/
set_option linter.unusedSimpArgs false
set_option linter.unusedVariables false
namespace Dn
open Go
section
variable {P:Program} {Q:Exit→Act→World→Prop} {ops:Array Oper} {o:Oper} {a:Act} {w w':World} {n:Nat} {σ:Nat→Value}
theorem Tm.call {i d:Nat} {op:Op} {rest:List Nat} {f:Nat} {args:Array Value} {Rp:Value→World→Prop} (aU:Tm a n σ) (hi:ops[i]? =some o) (ho:aF o d op) (hd:d<n)
 (bw:(execOp (ev σ) o).run P w=(callFunc f args).run P w) (hc:eZ P f args w Rp) (h: ∀v w' a',Rp v w'→Tm a' n (ET σ d v)→wpOps P ops Q rest a' w'):wpOps P ops Q (i::rest) a w:=by
 rw [wpOps_cons]
 unfold wpOp
 simp only [hi,Region.wanted,ho.guard,if_true]
 left
 refine oz (by rw [aU.eval];exact bw) hc ?_
 intro v w' hr
 rw [ho.dst]
 exact h v w' _ hr (aU.put hd v)
end
structure ab2 (t el ti:Nat) (o:Nat→Oper):Prop where
 h0:aF (o 0) 4 (.assign (.const (.int .i64 0)))
 h1:aF (o 1) 6 (.move (.tmp 0))
 h2:aF (o 2) 7 (.call {callee:= .builtin .len,args:= #[.tmp 6],argTypes:= #[t]})
 h3:aF (o 3) 8 (.move (.const (.int .i64 0)))
 h4:aF (o 4) 9 (.binOp .lss ti (.tmp 8) (.tmp 7) ti)
 h5:aF (o 5) 10 (.move (.tmp 8))
 h6:aF (o 6) 5 (.assign (.tmp 10))
 h7:aF (o 7) 11 (.move (.tmp 1))
 h8:aF (o 8) 12 (.move (.tmp 0))
 h9:aF (o 9) 13 (.move (.tmp 5))
 T3:aF (o 10) 14 (.indexAddr t (.tmp 12) (.tmp 13))
 Q8:aF (o 11) 15 (.load el (.tmp 14))
 Q9:aF (o 12) 16 (.call {callee:= .value (.tmp 11),args:= #[.tmp 15],argTypes:= #[el]})
 Ra:aF (o 13) 17 (.move (.tmp 5))
 Rb:aF (o 14) 4 (.assign (.tmp 17))
 Rc:aF (o 15) 18 (.binOp .add ti (.tmp 8) (.const (.int .i64 1)) ti)
 Re:aF (o 16) 8 (.move (.tmp 18))
 X3:aF (o 17) 4 (.assign (.const (.int .i64 (-1))))
section
variable {P:Program} {c:Ctx} {f t ti el:Nat} {fn:Func} {r:Nat→Nat} {o:Nat→Oper} {E:TI} {n cp g0 g:Nat} {ad:Option Addr} {ob:Option Nat} {w:World} {lb:Array Value} {S:Type} {Inv:S→(Nat→Prop)→Ph→World→Prop} {step:S→MV→Option (Bool×S)}
end
end Dn
/-
  slices.DeleteFunc of the library, walked, with whatever function. Conditions: none.
-/
set_option linter.unusedSimpArgs false
set_option linter.unusedVariables false
namespace Dn
open Go
structure ZU (t el ti tb fu fi:Nat) (o:Nat→Oper):Prop where
 h0:aF (o 0) 4 (.assign (.const (.slice none 0 0)))
 h1:aF (o 1) 8 (.move (.tmp 0))
 h2:aF (o 2) 9 (.move (.tmp 1))
 h3:aF (o 3) 10 (.call {callee:= .value (.func fi),args:= #[.tmp 8,.tmp 9],argTypes:= #[t,fu]})
 h4:aF (o 4) 5 (.assign (.tmp 10))
 h5:aF (o 5) 11 (.move (.tmp 5))
 h6:aF (o 6) 12 (.binOp .eql ti (.tmp 11) (.const (.int .i64 (-1))) ti)
 h7:aF (o 7) 13 (.move (.tmp 0))
 h8:aF (o 8) 4 (.assign (.tmp 13))
 h9:aF (o 9) 14 (.move (.tmp 5))
 T3:aF (o 10) 15 (.binOp .add ti (.tmp 14) (.const (.int .i64 1)) ti)
 Q8:aF (o 11) 6 (.assign (.tmp 15))
 Q9:aF (o 12) 16 (.move (.tmp 6))
 Ra:aF (o 13) 17 (.move (.tmp 0))
 Rb:aF (o 14) 18 (.call {callee:= .builtin .len,args:= #[.tmp 17],argTypes:= #[t]})
 Rc:aF (o 15) 19 (.binOp .lss ti (.tmp 16) (.tmp 18) ti)
 Re:aF (o 16) 22 (.move (.tmp 0))
 X3:aF (o 17) 23 (.move (.tmp 6))
 ZL:aF (o 18) 24 (.indexAddr t (.tmp 22) (.tmp 23))
 ZM:aF (o 19) 25 (.load el (.tmp 24))
 ZN:aF (o 20) 7 (.alloc el)
 We:JL (o 21) (.store el (.tmp 7) (.tmp 25))
 Wf:aF (o 22) 26 (.move (.tmp 1))
 Wg:aF (o 23) 27 (.load el (.tmp 7))
 Wh:aF (o 24) 28 (.call {callee:= .value (.tmp 26),args:= #[.tmp 27],argTypes:= #[el]})
 Wi:aF (o 25) 29 (.unOp .not tb (.tmp 28))
 Wj:aF (o 26) 30 (.move (.tmp 0))
 ZO:aF (o 27) 31 (.move (.tmp 5))
 ZP:aF (o 28) 32 (.load el (.tmp 7))
 ZQ:aF (o 29) 33 (.indexAddr t (.tmp 30) (.tmp 31))
 X4:JL (o 30) (.store el (.tmp 33) (.tmp 32))
 h31:aF (o 31) 34 (.move (.tmp 5))
 h32:aF (o 32) 35 (.binOp .add ti (.tmp 34) (.const (.int .i64 1)) ti)
 h33:aF (o 33) 5 (.assign (.tmp 35))
 h34:aF (o 34) 20 (.move (.tmp 6))
 h35:aF (o 35) 21 (.binOp .add ti (.tmp 20) (.const (.int .i64 1)) ti)
 h36:aF (o 36) 6 (.assign (.tmp 21))
 h37:aF (o 37) 36 (.move (.tmp 0))
 h38:aF (o 38) 37 (.move (.tmp 5))
 h39:aF (o 39) 38 (.slice t (.tmp 36) (some (.tmp 37)) none none)
 X5:JL (o 40) (.call {callee:= .builtin .clear,args:= #[.tmp 38],argTypes:= #[t]})
 h41:aF (o 41) 39 (.move (.tmp 0))
 h42:aF (o 42) 40 (.move (.tmp 5))
 h43:aF (o 43) 41 (.slice t (.tmp 39) none (some (.tmp 40)) none)
 h44:aF (o 44) 4 (.assign (.tmp 41))
section
variable {P:Program} {c:Ctx} {f fi t ti tb fu el:Nat} {fn fni:Func} {r ri:Nat→Nat} {o oi:Nat→Oper} {E:TI} {cp g0 g:Nat} {ad:Option Addr} {ob:Option Nat} {w W W2:World} {lb:Array Value} {S:Type} {Inv:S→(Nat→Prop)→Ph→World→Prop} {step:S→MV→Option (Bool×S)} {Z0 Z:Nat→Prop} {φ0 φ:Ph} {s:S}
theorem Q2.move (hp:tN P c g lb Inv step) (hW:Q2 c ob Inv Z0 φ0 w s Z φ W) (lh:W.heap.size≤W2.heap.size) (mr: ∀b,b<W.heap.size→ob≠some b→W2.heap[b]? =W.heap[b]?) (s8:Rest W W2) (XU: ∀b,ob=some b→ ¬Z b):
 Q2 c ob Inv Z0 φ0 w s (fun b=>(Z b∧b<W.heap.size)∨W2.heap.size≤b) φ W2:=by
 have hws:=hW.tr.size
 refine ⟨hp.mono (hp.frame hW.inv lh fun b hz hb=>mr b hb (fun e=>XU b e hz)) fun b hb=> .inl hb,fun b hb=> .inr hb,fun b hb=> ?_,fun b off v hv=> ?_,?_,hW.free⟩
 ·rcases hb with hb|hb
  ·exact hW.sub b hb.1
  ·exact .inr (by omega)
 ·have h1:=hW.jb b off v hv
  have cA:=World.block_lt_of_cell? W _ h1
  have cm:ob≠some b:=by intro e;rw [hW.free b off e] at hv;cases hv
  rw [World.cell?_of_block (mr b cA cm)]
  exact h1
 ·refine hW.tr.trans ⟨.refl _,fun b hb cA=> ?_,fun _ _ _=>rfl,lh,s8⟩
  exact mr b cA (fun e=>hb (.inr e))
end
end Dn
/-
  Going through a map, in whatever order; a label at the end of a scope. Conditions: none.
-/
set_option linter.unusedSimpArgs false
set_option linter.unusedVariables false
namespace Dn
open Go
def pM {R:Type} (x:Option (Sum Unit R)):Bool:=match x with|some (.inl _)=>true|_=>false
def lk {α R:Type} (f:α→Option (Sum Unit R)) (d:Option R):List α→Option R
 |[]=>d
 |x::xs=>match f x with
  |some (.inl _)=>lk f d xs
  |some (.inr r)=>bif xs.all fun y=>pM (f y) then some r else none
  |none=>none
structure Mi where
 i1:Nat
 o1:Array Oper
 a1:Oper
 b1:Oper
 x:Operand
 d1:Nat
 t:Nat
 d2:Nat
 k:Nat
 i2:Nat
 o2:Array Oper
 a2:Oper
 r2:List Oper
 cx:Operand
 kx:Nat
 k5:Nat
 i3:Nat
 o3:Array Oper
 a3:Oper
 r3:List Oper
 rest:Code
def Mi.body (q:Mi):Code:= .seq (.region q.i2 q.o2 false) (.seq (.cond q.cx .skip (.exit q.kx)) (.block q.k5 (.seq (.region q.i3 q.o3 false) q.rest)))
def Mi.code (q:Mi):Code:= .seq (.region q.i1 q.o1 false) (.block q.k (.loop q.body))
def isNone {α:Type}:Option α→Bool
 |none=>true
 |some _=>false
def X9 (o:Oper):Option Operand:=match o.op with| .move x=>some x|_=>none
def Ya (o:Oper) (d:Nat):Option Nat:=match o.op with| .range t (.tmp y)=>bif Nat.beq y d then some t else none|_=>none
def Uw (o:Oper) (d:Nat):Bool:=match o.op with| .next (.tmp y) false=>Nat.beq y d|_=>false
def Ux (o:Oper) (d:Nat):Bool:=match o.op with| .entry (.tmp y)=>Nat.beq y d|_=>false
def JM (code:Code):Option Mi:=match code with
 | .seq (.region i1 o1 false) (.block k (.loop (.seq (.region i2 o2 false) (.seq (.cond cx .skip (.exit kx)) (.block k5 (.seq (.region i3 o3 false) rest))))))=>
  (match o1.toList,o2.toList,o3.toList with
  |[a1,b1],a2::r2,a3::r3=>(match X9 a1,a1.dst,b1.dst with
   |some x,some d1,some d2=>(match Ya b1 d1 with
    |some t=>bif Uw a2 d2&&(Ux a3 d2&&(isNone a1.guard&&(isNone b1.guard&&(isNone a2.guard&&isNone a3.guard)))) then
     some ⟨i1,o1,a1,b1,x,d1,t,d2,k,i2,o2,a2,r2,cx,kx,k5,i3,o3,a3,r3,rest⟩ else none
    |none=>none)
   |_,_,_=>none)
  |_,_,_=>none)
 |_=>none
def D8 {R:Type} (m:MV) (K:List UInt8→Int→Option R):Option R:=
 gT m fun l=>gC l fun ka r=>gA ka fun ks=>gC ks fun k0 kr=>gN kr<|gS k0 fun key=>gC r fun v0 vr=>gN vr<|gI .i64 v0 fun n=>K key n
noncomputable def Rj (c:Ctx) (q:Mi) (st:St) (m:MV):Option (Sum Unit (Nat×List MV)):=
 D8 m fun key n=>aL c st q.a2.dst (.dy [.sc (.p (.b true)),.sc (.p (.s key)),.sc (.p (.i .i64 n))]) fun st=>pi c q.o2.toList q.r2 st fun st=>(match aw c st q.cx with
  | .sc (.p (.b true))=>aL c st q.a3.dst (.dy [.sc (.p (.s key)),.sc (.p (.i .i64 n))]) fun st=>pi c q.o3.toList q.r3 st fun st=>
   ft c q.rest (Sum Unit (Nat×List MV)) st fun e st=>bif Nat.beq e 0||Nat.beq e (q.k5+2) then some (.inl ()) else ia st [] ((c.qH q.i2).ex e) fun vs=>some (.inr (e,vs))
  |_=>none)
def Uy (c:Ctx) (q:Mi) (st:St):Option (Nat×List MV):=
 aL c st q.a2.dst (.dy [.sc (.p (.b false))]) fun st=>pi c q.o2.toList q.r2 st fun st=>(match aw c st q.cx with
  | .sc (.p (.b false))=>ia st [] ((c.qH q.i2).ex (q.kx+2)) fun vs=>some (q.kx+2,vs)
  |_=>none)
noncomputable def Uz (c:Ctx) (q:Mi) {R:Type} (st:St) (K:Nat→St→Option R):Option R:=
 aL c st (some q.d1) (aw c st q.x) fun st=>match aw c st (.tmp q.d1),nR c q.t with
  | .qB root,some s0=>(match ak st.fr root with
   | .box [.mp s _]=>bif qG root||!R5 s s0 then none else
    aL c st (some q.d2) (.sc .un) fun st=>v8 c (c.qH q.i2) st fun _ cr=>(match (c.qH q.i2).outs,ak cr.fr root with
     |[],.box [.mp s2 es]=>bif s2.st||(!uv s2.lay [.s]||(s2.b||!aV cr.bA q.d2)) then none else
      bd (lk (Rj c q cr) (Uy c q cr) es) fun r=>Kg (minus (fH q.body) [0]) r.1 fun e=>iA (pk st cr) ((c.qH q.i2).ex e) r.2 fun st=>K (bif Nat.beq e (q.k+2) then 0 else e) st
     |_,_=>none)
   |_=>none)
  |_,_=>none
def Ow (a b:Code):Option Nat:=match a,b with
 | .goto l,.skip=>some l
 |_,_=>none
noncomputable def zN (c:Ctx) {R:Type} (l:Nat) (G:St→Option R):Code→St→(Nat→St→Option R)→Option R
 | .seq a b,st,K=>zN c l G a st fun e st=>bif Nat.beq e 0 then zN c l G b st K else K e st
 | .cond x a b,st,K=>(match Ow a b with
  |some l'=>bif Nat.beq l' l then (match aw c st x with| .sc (.p (.b v))=>aR v (G st) (K 0 st)|_=>none) else none
  |none=>ft c (.cond x a b) R st K)
 | .label _,st,K=>K 0 st
 |code,st,K=>ft c code R st K
noncomputable def xz (c:Ctx) {R:Type}:Code→St→(Nat→St→Option R)→Option R
 | .seq a b,st,K=>(match JM a with
  |some q=>Uz c q st fun e st=>bif Nat.beq e 0 then xz c b st K else K e st
  |none=>ft c a R st fun e st=>bif Nat.beq e 0 then xz c b st K else K e st)
 | .scope b,st,K=>(match findLabel b 0 with
  |some rest=>zN c 0 (fun st=>ft c rest R st K) b st K
  |none=>none)
 |code,st,K=>ft c code R st K
noncomputable def F7 (c:Ctx) (bo:List (List Kd)) (fresh:Option Nat) (f:Func) (args:List MV):Option MV:=Ja (fun b st K=>xz c b st K) c bo fresh f args
theorem F8 {α R:Type} {f:α→Option (Sum Unit R)} {d:Option R} {r:R}: ∀{es:List α},lk f d es=some r→(∀m∈es,f m=some (.inl ())∨f m=some (.inr r))∧((∀m∈es,f m=some (.inl ()))→d=some r):=by
 intro es
 induction es with
 |nil=>intro h;exact ⟨by simp,fun _=>h⟩
 |cons x xs ih=>
  intro h
  simp only [lk] at h
  split at h
  ·rename_i u hx
   obtain ⟨h1,h2⟩:=ih h
   refine ⟨fun m hm=> ?_,fun hm=>h2 fun m hx=>hm m (List.mem_cons_of_mem _ hx)⟩
   rcases List.mem_cons.1 hm with rfl|hm
   ·exact .inl hx
   ·exact h1 m hm
  ·rename_i r' hx
   cases ha:xs.all fun y=>pM (f y) with
   |false=>rw [ha] at h;cases h
   |true=>
    rw [ha] at h
    simp only [cond_true,Option.some.injEq] at h
    subst h
    refine ⟨fun m hm=> ?_,fun hm=> ?_⟩
    ·rcases List.mem_cons.1 hm with rfl|hm
     ·exact .inr hx
     ·rw [List.all_eq_true] at ha
      have:=ha m hm
      unfold pM at this
      split at this
      ·rename_i u hu;exact .inl hu
      ·cases this
    ·have:=hm x (by simp)
     rw [hx] at this;cases this
  ·cases h
section
variable {P:Program} {c:Ctx} {Z Zb Zi:aX} {e e' e3:Env} {st bj jB B:St} {a a':Act} {w w':World} {R:Type} {r:R} {Q:Exit→Act→World→Prop} {o:Oper} {hn:jZ}
def aX.cv (Z:aX) (g:Nat):aX:={Z with In:=fun b=>Z.In b∧b≠g}
theorem eS.Yb {g:Nat} (j:eS c Zb Zi e B hn a w) (hg:g<w.heap.size):eS c Zb (Zi.cv g) e B hn a w:=
 ⟨j.ke,fun b hb=>j.sub b hb.1,fun b hb=>⟨j.new b hb,by omega⟩,j.bA,j.T,j.keys,fun t cs ht hz=>j.box t cs ht hz.1,fun f o b ho hb hz=>j.dS f o b ho hb hz.1,j.NK,j.KM,j.ptr,j.Md⟩
theorem eS.SP {g:Nat} (j:eS c Zi Zi e B hn a w) (hg:g<w.heap.size):bn c (Zi.cv g) e B a w:=by
 have h:=j.ke
 have hm:e.m=B.aE:=h.m
 have:=h.sub (Zi:=Zi.cv g) (bj:=B) (fun _ h=>h) ⟨h.defers.2.1,h.defers.2.2.1,h.defers.2.2.2⟩ h.nodup (fun t=> .inr ⟨j.ptr t,.inl rfl⟩) (fun f o ho=>⟨o,ho,rfl,rfl,id⟩)
  (by
   intro t cs ht
   have hs:=h.slot t
   rw [ht] at hs
   rcases hs.2.bH with h1|h1
   ·exact .inl h1
   ·exact absurd h1 (j.box t cs ht))
  (by
   intro f o b ho hb
   obtain ⟨I,cells,_,_,_,_,g5⟩:=(h.dS f o ho).row
   rcases (g5 b hb).1 with h1|h1
   ·exact .inl h1
   ·exact absurd h1 (j.dS f o b ho hb))
  (by
   intro f o I cells b ho hp hz hI cC hb k hk
   obtain ⟨I',DB,g1,_,g3,_,g5⟩:=(h.dS f o ho).row
   rw [hI] at g1
   cases g1
   rw [nn cC g3 hb] at hk⊢
   exact (g5 b hb).2.2 hp hz k hk)
  (fun b hb=>⟨j.new b hb,by omega⟩)
 have he:{e with m:=B.aE}=e:=by cases e;simp at hm⊢;exact hm.symm
 rw [he] at this
 exact this
theorem D9 {d:Nat} {s:Slot} {K:St→Option R} (hK:aL c st (some d) s K=some r):bR (ak st.fr d)=false∧d∉st.bA∧d<c.n:=by
 simp only [aL] at hK
 cases sU:qG d||(Nat.ble c.n d||bR (ak st.fr d)) with
 |true=>simp [sU] at hK
 |false=>
  obtain ⟨_,hb⟩:=Bool.or_eq_false_iff.1 sU
  obtain ⟨ov,oe⟩:=Bool.or_eq_false_iff.1 hb
  simp only [sU,cond_false,wr] at hK
  cases hp:aV st.bA d with
  |true=>simp [hp] at hK
  |false=>
   refine ⟨oe,fun hm=> ?_,?_⟩
   ·rw [←aW,hp] at hm;cases hm
   ·by_cases hh:d<c.n
    ·exact hh
    ·rw [Nat.ble_eq_true_of_le (by omega)] at ov;cases ov
theorem H4 {code:Code} {q:Mi} (h:JM code=some q):code=q.code∧q.o1.toList=[q.a1,q.b1]∧q.o2.toList=q.a2::q.r2∧q.o3.toList=q.a3::q.r3∧q.a1.op= .move q.x∧q.a1.dst=some q.d1∧
 q.b1.op= .range q.t (.tmp q.d1)∧q.b1.dst=some q.d2∧q.a2.op= .next (.tmp q.d2) false∧q.a3.op= .entry (.tmp q.d2)∧q.a1.guard=none∧q.b1.guard=none∧q.a2.guard=none∧q.a3.guard=none:=by
 have hN: ∀{α:Type} {x:Option α},isNone x=true→x=none:=by intro α x hx;cases x<;>first|rfl|cases hx
 unfold JM at h
 split at h
 ·rename_i i1 o1 k i2 o2 cx kx k5 i3 o3 rest
  split at h
  ·rename_i a1 b1 a2 r2 a3 r3 e1 e2 e3
   split at h
   ·rename_i x d1 d2 g1 g2 g3
    split at h
    ·rename_i t g4
     cases hb:Uw a2 d2&&(Ux a3 d2&&(isNone a1.guard&&(isNone b1.guard&&(isNone a2.guard&&isNone a3.guard)))) with
     |false=>rw [hb] at h;cases h
     |true=>
      rw [hb] at h
      simp only [cond_true,Option.some.injEq] at h
      subst h
      simp only [Bool.and_eq_true] at hb
      obtain ⟨k1,k2,k3,k4,k5',k6⟩:=hb
      refine ⟨rfl,e1,e2,e3,?_,g2,?_,g3,?_,?_,hN k3,hN k4,hN k5',hN k6⟩
      ·unfold X9 at g1
       split at g1
       ·rename_i y hy;cases g1;exact hy
       ·cases g1
      ·unfold Ya at g4
       split at g4
       ·rename_i t' y hy
        cases SK:Nat.beq y d1 with
        |false=>rw [SK] at g4;cases g4
        |true=>
         rw [SK] at g4
         simp only [cond_true,Option.some.injEq] at g4
         subst g4
         rw [hy,Nat.eq_of_beq_eq_true SK]
       ·cases g4
      ·unfold Uw at k1
       split at k1
       ·rename_i y hy;rw [hy,Nat.eq_of_beq_eq_true k1]
       ·cases k1
      ·unfold Ux at k2
       split at k2
       ·rename_i y hy;rw [hy,Nat.eq_of_beq_eq_true k2]
       ·cases k2
    ·cases h
   ·cases h
  ·cases h
 ·cases h
theorem H5 {g:Nat} {φ:Ph} {w1:World} {o o':Obj} (hz:Zi.In g) (hw:w1=w∨w1=w.drew) (ho:w.heap[g]? =some o) (hf: ∀x y z,o≠ .cells x y z) (PX: ∀x y z,o'≠ .cells x y z):Trans Zi.In φ w φ (ChangeMaps.setBlock w1 g o'):=by
 have hh:w1.heap=w.heap:=by rcases hw with rfl|rfl<;>rfl
 refine ⟨.refl _,fun b hb hl=> ?_,fun _ _ _=>rfl,?_,?_⟩
 ·simp only [ChangeMaps.setBlock,hh]
  rw [Array.getElem?_setIfInBounds_ne (by intro he;subst he;exact hb hz)]
 ·simp [ChangeMaps.setBlock,hh]
 ·refine ⟨by rcases hw with rfl|rfl<;>rfl,by rcases hw with rfl|rfl<;>rfl,by rcases hw with rfl|rfl<;>rfl,fun x=> ?_⟩
  unfold World.frozen?
  by_cases hx:x.block=g
  ·have hl:=aN ho
   have e1:(ChangeMaps.setBlock w1 g o').heap[x.block]? =some o':=by rw [hx];simp [ChangeMaps.setBlock,hh,hl]
   rw [e1,hx,ho]
   cases o<;>cases o'<;>first|rfl|(exfalso;exact hf _ _ _ rfl)|(exfalso;exact PX _ _ _ rfl)
  ·have e1:(ChangeMaps.setBlock w1 g o').heap[x.block]? =w.heap[x.block]? :=by
    simp only [ChangeMaps.setBlock,hh]
    rw [Array.getElem?_setIfInBounds_ne (Ne.symm hx)]
   rw [e1]
end
end Dn
