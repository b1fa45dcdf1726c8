import Derived.Test.YtmdlghpieagfhaaGreatDnB
import Derived.ProofKit
import Derived.OpenShut
import Derived.Laws.CopyRow
import Derived.Lib.AppendZerosOnto
import Derived.Lib.Overlaps
import Derived.Laws.Externs
import Derived.Control
import Derived.Maps.RangeRun
import Derived.ScopeJumps
/-
  What arguments read as: values of their types. Conditions: none.
-/
set_option linter.unusedSimpArgs false
set_option linter.unusedVariables false
namespace Dn
open Go Go.WideShapes
def Ba (W:World):Ph:=fun b o=>W.cell? ⟨b,o,none⟩
theorem Rx (W:World):zC (Ba W) W:=fun b o v h=>h
def H4 (P:Program):List Field→Nat→Nat→Bool
 |[],o,n=>Nat.beq o n
 |f::fs,o,n=>Nat.beq f.offset o&&H4 P fs (o+P.cellsOf f.type) n
def V5 (P:Program):Nat→TypeId→Bool
 |0,_=>false
 |d+1,t=>match P.underlying t with
  |some .bool=>true
  |some (.int _)=>true
  |some .string=>true
  |some (.slice e)=>V5 P d e&&Nat.ble 1 (P.cellsOf e)
  |some (.struct fs)=>H4 P fs.toList 0 (P.cellsOf t)&&fs.toList.all fun f=>V5 P d f.type
  |some (.array n e)=>Nat.beq n 32&&(match P.underlying e with|some (.int .u8)=>true|_=>false)&&Nat.beq (P.cellsOf e) 1&&Nat.beq (P.cellsOf t) 32
  |_=>false
def ME (P:Program) (F:TypeId→List MV→Prop) (e:TypeId) (x:MV):Prop:=
 match P.underlying e with
 |some (.struct _)=> ∃cs,x= .agg cs∧F e cs
 |_=>F e [x]
def FT (F:TypeId→List MV→Prop):List TypeId→List MV→Prop
 |[],ms=>ms=[]
 |t::ts,ms=> ∃a b,ms=a++b∧F t a∧FT F ts b
def MT (P:Program):Nat→TypeId→List MV→Prop
 |0,_,_=>False
 |d+1,t,ms=>match P.underlying t with
  |some .bool=> ∃b,ms=[.b b]
  |some (.int k)=> ∃n,ms=[.i k n]∧(Lit.int k n).wf=true
  |some .string=> ∃l:List UInt8,ms=[.s l]∧l.length≤maxLen
  |some (.slice e)=> ∃xs,ms=[.list xs]∧xs.length≤maxLen∧ ∀x∈xs,ME P (MT P d) e x
  |some (.struct fs)=>FT (MT P d) (fs.toList.map (·.type)) ms
  |some (.array _ _)=> ∃h,ms=[.h h]
  |_=>False
section
variable {H:Type} {enc:TypeId×Value→H} {P:Program} {W:World} {base:Nat} {sp:Nat→Bool} {held:Bool} {key:Nat→Nat}
theorem gq.append {key:Nat→Nat} {φ:Ph} {ms ns:List MV}: ∀{vs us:List Value},gq key φ vs ms→gq key φ us ns→gq key φ (vs++us) (ms++ns):=by
 induction ms with
 |nil=>intro vs us h h';cases h;simpa using h'
 |cons m ms ih=>
  intro vs us h h'
  cases h with
  |cons v _ vs _ h1 h2=>rw [List.append_assoc];exact .cons v m _ _ h1 (ih h2 h')
theorem gq.Ry {key:Nat→Nat} {φ:Ph} {v:Value} {m:MV} (h:kR key φ [v] m):gq key φ [v] [m]:=by
 have:=gq.cons [v] m [] [] h .nil
 simpa using this
theorem gq.single {key:Nat→Nat} {φ:Ph} {vs:List Value} {m:MV} (h:gq key φ vs [m]):kR key φ vs m:=by
 cases h with
 |cons v _ vs _ h1 h2=>cases h2;simpa using h1
theorem Bb {a:Addr} {n:Nat} {cs:List Value} (h:W.cells? base a n=some cs):cs.length=n∧ ∀j,j<n→W.cell? (a.add j)=cs[j]? :=by
 unfold World.cells? at h
 split at h
 ·have hl:=mapM_some_length h
  refine ⟨by simpa using hl,fun j hj=> ?_⟩
  exact mapM_some_get h j j (by simp [hj])
 ·cases h
theorem JK {F:TypeId→List MV→Prop} {fuel:Nat} {cs:List Value}: ∀(fs:List Field) (o n:Nat) (xs:List (DataW H×List MemPlace)),H4 P fs o n=true→cs.length=n→
 (∀(i:Nat) (f:Field),fs[i]? =some f→DataW.trod enc P W base sp held fuel f.type ((cs.drop f.offset).take (P.cellsOf f.type))=xs[i]?)→xs.length=fs.length→
 (∀f∈fs,∀ir x,DataW.trod enc P W base sp held fuel f.type ir=some x→ ∃ms,gq key (Ba W) ir ms∧F f.type ms)→
 ∃ms,gq key (Ba W) (cs.drop o) ms∧FT F (fs.map (·.type)) ms:=by
 intro fs
 induction fs with
 |nil=>
  intro o n xs hc hl _ _ _
  have:o=n:=Nat.eq_of_beq_eq_true hc
  subst this
  refine ⟨[],?_,rfl⟩
  rw [←hl,List.drop_length];exact .nil
 |cons f fs ih=>
  intro o n xs hc hl hx Tx hF
  simp only [H4,Bool.and_eq_true] at hc
  have ho:=Nat.eq_of_beq_eq_true hc.1
  cases xs with
  |nil=>simp at Tx
  |cons x xs=>
   have h0:=hx 0 f rfl
   rw [ho] at h0
   obtain ⟨m1,r1,t1⟩:=hF f (by simp) _ x (by simpa using h0)
   obtain ⟨m2,r2,t2⟩:=ih (o+P.cellsOf f.type) n xs hc.2 hl (fun i g hg=>by have:=hx (i+1) g (by simpa using hg);simpa using this) (by simpa using Tx) (fun g hg=>hF g (by simp [hg]))
   refine ⟨m1++m2,?_,m1,m2,rfl,t1,t2⟩
   have:=r1.append r2
   rw [←List.drop_drop,List.take_append_drop] at this
   exact this
theorem Rz: ∀(fuel D:Nat) (t:TypeId) (cs:List Value) (x:DataW H×List MemPlace),V5 P D t=true→DataW.trod enc P W base sp held fuel t cs=some x→
 ∃ms,gq key (Ba W) cs ms∧MT P fuel t ms:=by
 intro fuel
 induction fuel with
 |zero=>intro D t cs x _ h;simp [DataW.trod] at h
 |succ fuel ih=>
  intro D t cs x hD h
  cases D with
  |zero=>simp [V5] at hD
  |succ D=>
   unfold V5 at hD
   cases hu:P.underlying t with
   |none=>simp [hu] at hD
   |some d=>
    cases d<;>simp only [hu] at hD<;>try (cases hD;done)
    case bool=>
     obtain ⟨b,rfl,_⟩:=DataW.trod_bool hu h
     exact ⟨[.b b],.Ry (.b b),by simp only [MT,hu];exact ⟨b,rfl⟩⟩
    case int k=>
     obtain ⟨n,rfl,_,hw⟩:=DataW.trod_int hu h
     exact ⟨[.i k n],.Ry (.i k n),by simp only [MT,hu];exact ⟨n,rfl,hw⟩⟩
    case string=>
     obtain ⟨s,rfl,_,hw⟩:=DataW.trod_string hu h
     exact ⟨[.s s.data.toList],.Ry (.s s),by simp only [MT,hu];exact ⟨_,rfl,by simpa using hw⟩⟩
    case struct fs=>
     obtain ⟨xs,n,hn,_,hl,Tx,hx⟩:=DataW.trod_struct hu h
     have hn:n=fuel:=by omega
     subst hn
     simp only [Bool.and_eq_true] at hD
     obtain ⟨ms,r1,t1⟩:=JK (F:=MT P n) (key:=key) fs.toList 0 (P.cellsOf t) xs hD.1 hl (fun i f hf=>hx i f (by simpa using hf)) (by simpa using Tx)
      (fun f hf ir x' h'=>ih D f.type ir x' (List.all_eq_true.1 hD.2 f hf) h')
     exact ⟨ms,by simpa using r1,by simp only [MT,hu];exact t1⟩
    case slice e=>
     simp only [Bool.and_eq_true] at hD
     have jx:1≤P.cellsOf e:=Nat.le_of_ble_eq_true hD.2
     rcases DataW.trod_slice hu h with ⟨rfl,_⟩|⟨a,len,cap,elems,rest,n,hn,rfl,_,_,hlc,IM,VI,hx,_⟩
     ·refine ⟨[.list []],.Ry (.list none 0 [] 0 0 0 (fun _=>[]) (by simp) (by simp) (by simp) (by simp) (by simp)),?_⟩
      simp only [MT,hu]
      exact ⟨[],rfl,Nat.zero_le _,by simp⟩
     ·have hn:n=fuel:=by omega
      subst hn
      have lY: ∀i,i<len→ ∃ir m,W.cells? base (a.add (i *P.cellsOf e)) (P.cellsOf e)=some ir∧kR key (Ba W) ir m∧ME P (MT P n) e m:=by
       intro i hi
       have h1:=hx i hi
       cases hc:W.cells? base (a.add (i *P.cellsOf e)) (P.cellsOf e) with
       |none=>
        rw [hc] at h1
        have:elems[i]? =none:=by simpa using h1.symm
        rw [List.getElem?_eq_none_iff] at this
        omega
       |some ir=>
        rw [hc] at h1
        have du:i<elems.length:=by omega
        rw [List.getElem?_eq_getElem du] at h1
        obtain ⟨ms,r1,t1⟩:=ih D e ir _ hD.1 (by simpa using h1)
        have Q3:=hD.1
        by_cases hs: ∃fs,P.underlying e=some (.struct fs)
        ·obtain ⟨fs,hs⟩:=hs
         exact ⟨ir,.agg ms,rfl,.agg ir ms r1,by simp only [ME,hs];exact ⟨ms,rfl,t1⟩⟩
        ·have h1m: ∃m,ms=[m]:=by
          cases n with
          |zero=>exact t1.elim
          |succ n=>
           simp only [MT] at t1
           cases VN:P.underlying e with
           |none=>simp [VN] at t1
           |some de=>
            cases de<;>simp only [VN] at t1<;>first
             |exact t1.elim
             |(obtain ⟨y,hy,_⟩:=t1;exact ⟨_,hy⟩)
             |(obtain ⟨y,hy⟩:=t1;exact ⟨_,hy⟩)
             |exact absurd ⟨_,VN⟩ hs
         obtain ⟨m,rfl⟩:=h1m
         refine ⟨ir,m,rfl,r1.single,?_⟩
         unfold ME
         cases VN:P.underlying e with
         |none=>exact t1
         |some de=>cases de<;>first|exact t1|exact absurd ⟨_,VN⟩ hs
      let f:Nat→List Value:=fun i=>(W.cells? base (a.add (i *P.cellsOf e)) (P.cellsOf e)).getD []
      let g:Nat→MV:=fun i=>if hi:i<len then Classical.choose (Classical.choose_spec (lY i hi)) else default
      have IV: ∀i,i<len→W.cells? base (a.add (i *P.cellsOf e)) (P.cellsOf e)=some (f i)∧kR key (Ba W) (f i) (g i)∧ME P (MT P n) e (g i):=by
       intro i hi
       have Ux:=Classical.choose_spec (Classical.choose_spec (lY i hi))
       have hf:f i=Classical.choose (lY i hi):=by
        show (W.cells? base (a.add (i *P.cellsOf e)) (P.cellsOf e)).getD []=_
        exact congrArg (fun o=>o.getD []) Ux.1
       have hg:g i=Classical.choose (Classical.choose_spec (lY i hi)):=by
        show (if hi:i<len then _ else _)=_
        rw [dif_pos hi]
       rw [hf,hg];exact Ux
      have V6:0<len→a=⟨a.block,a.off,none⟩:=by
       intro h0
       obtain ⟨h1,_,_⟩:=IV 0 h0
       obtain ⟨pS,hcg⟩:=Bb h1
       have:=hcg 0 (by omega)
       rw [Nat.zero_mul] at this
       have hz:(a.add 0).add 0=a:=rfl
       rw [hz] at this
       have du:0<(f 0).length:=by omega
       rw [List.getElem?_eq_getElem du] at this
       unfold World.cell? at this
       split at this
       ·cases Ux:a.spot with
        |none=>cases a;simp at Ux;subst Ux;rfl
        |some s=>simp [Ux] at this
       ·cases this
      have aaY: ∀i j,i<len→j<P.cellsOf e→Ba W a.block (a.off+i *P.cellsOf e+j)=(f i)[j]? :=by
       intro i j hi hj
       obtain ⟨h1,_,_⟩:=IV i hi
       obtain ⟨pS,hcg⟩:=Bb h1
       have:=hcg j hj
       rw [←this]
       unfold Ba
       congr 1
       have ha:=V6 (by omega)
       rw [ha]
       rw [Addr.add_mid,Addr.add_mid]
      refine ⟨[.list ((List.range len).map g)],.Ry ?_,?_⟩
      ·have hlen:((List.range len).map g).length=len:=by simp
       have:=kR.list (key:=key) (φ:=Ba W) (some a) cap ((List.range len).map g) a.block a.off (P.cellsOf e) f (by rw [hlen];exact hlc) (fun h0=>by rw [hlen] at h0;exact congrArg some (V6 h0))
        (fun i hi=>by rw [hlen] at hi;exact (Bb (IV i hi).1).1) (fun i j hi hj=>aaY i j (by rw [hlen] at hi;exact hi) hj)
        (fun i hi=>by simp at hi;simpa using (IV i hi).2.1)
       rw [hlen] at this
       exact this
      ·simp only [MT,hu]
       refine ⟨_,rfl,by simp;omega,fun y hy=> ?_⟩
       obtain ⟨i,hi,rfl⟩:=List.mem_map.1 hy
       exact (IV i (by simpa using hi)).2.2
    case array n e=>
     simp only [Bool.and_eq_true] at hD
     obtain ⟨⟨⟨h1,h2⟩,h3⟩,h4⟩:=hD
     have h1:=Nat.eq_of_beq_eq_true h1
     have h3:=Nat.eq_of_beq_eq_true h3
     have h4:=Nat.eq_of_beq_eq_true h4
     subst h1
     obtain ⟨xs,m,hm,_,hl,Tx,hx⟩:=DataW.trod_array hu h
     rw [h4] at hl
     split at h2
     ·rename_i VN
      have xM: ∀i (hi:i<cs.length),∃b:UInt8,cs[i]= .int .u8 (b.toNat:Int):=by
       intro i hi
       have Lp:i<32:=by omega
       have:=hx i Lp
       rw [h3,Nat.mul_one] at this
       have IQ:(cs.drop i).take 1=[cs[i]]:=by
        rw [List.take_one,List.head?_drop,List.getElem?_eq_getElem hi];rfl
       rw [IQ,List.getElem?_eq_getElem (by omega)] at this
       obtain ⟨k,hk,_,hw⟩:=DataW.trod_int VN this
       simp only [List.cons.injEq,and_true] at hk
       refine ⟨UInt8.ofNat k.toNat,?_⟩
       rw [hk]
       simp only [Lit.wf,Bool.and_eq_true,decide_eq_true_eq] at hw
       have QG:IntKind.u8.min=0:=by decide
       have afs:IntKind.u8.max=255:=by decide
       rw [QG,afs] at hw
       congr 1
       have:(UInt8.ofNat k.toNat).toNat=k.toNat:=by
        rw [UInt8.toNat_ofNat'];omega
       rw [this];omega
      have: ∃l:List UInt8,cs=l.map fun b=>Value.int .u8 (b.toNat:Int):=by
       clear hx hl h
       induction cs with
       |nil=>exact ⟨[],rfl⟩
       |cons c cs ihc=>
        obtain ⟨b,hb⟩:=xM 0 (by simp)
        obtain ⟨l,hl⟩:=ihc (fun i hi=>by have:=xM (i+1) (by simpa using hi);simpa using this)
        exact ⟨b::l,by simp at hb;rw [hb,hl];rfl⟩
      obtain ⟨l,rfl⟩:=this
      have Xp:l.length=32:=by simpa using hl
      refine ⟨[.h ⟨l,Xp⟩],?_,by simp only [MT,hu];exact ⟨_,rfl⟩⟩
      have:=gq.cons (key:=key) (φ:=Ba W) _ (.h ⟨l,Xp⟩) [] [] (.h ⟨l,Xp⟩) .nil
      simpa using this
     ·cases h2
theorem RB {r:Reach} {b0 D:Nat} {t:TypeId} {v:Value} {d:DataW H} {ps:List MemPlace} (hD:V5 P D t=true) (hv:Value.okWide P W r b0 t v) (h:DataW.Trod enc P W base sp held t v d ps):
 ∃m n,gV key (Ba W) v m∧ME P (MT P n) t m:=by
 obtain ⟨fuel,hf⟩:=h
 obtain ⟨ms,r1,t1⟩:=Rz (key:=key) fuel D t _ _ hD hf
 cases fuel with
 |zero=>exact t1.elim
 |succ fuel=>
  have t2:=t1
  simp only [MT] at t1
  cases hu:P.underlying t with
  |none=>simp [hu] at t1
  |some k=>
   simp only [hu] at t1
   cases k<;>simp only at t1<;>try (exact t1.elim)
   case bool=>
    obtain ⟨b,rfl⟩:=t1
    obtain ⟨b',rfl⟩:=okWide_bool hu hv
    refine ⟨.b b,fuel+1,⟨rfl,r1.single⟩,by unfold ME;simp only [hu];exact t2⟩
   case int k=>
    obtain ⟨n,rfl,_⟩:=t1
    obtain ⟨n',rfl⟩:=okWide_int hu hv
    refine ⟨.i k n,fuel+1,⟨rfl,r1.single⟩,by unfold ME;simp only [hu];exact t2⟩
   case string=>
    obtain ⟨l,rfl,_⟩:=t1
    obtain ⟨s',rfl⟩:=okWide_string hu hv
    refine ⟨.s l,fuel+1,⟨rfl,r1.single⟩,by unfold ME;simp only [hu];exact t2⟩
   case slice e=>
    obtain ⟨xs,rfl,_⟩:=t1
    have hvc:v.cells.toList=[v]:=by
     simp only [Value.okWide,hu,Cell.okWide] at hv
     cases v<;>simp_all [Cell.ok,Value.cells]
    rw [hvc] at r1
    refine ⟨.list xs,fuel+1,⟨rfl,r1.single⟩,by unfold ME;simp only [hu];exact t2⟩
   case struct fs=>
    obtain ⟨arr,rfl,_⟩:=okWide_struct hu hv
    refine ⟨.agg ms,fuel+1,⟨arr,rfl,by simpa [Value.cells] using r1⟩,by unfold ME;simp only [hu];exact ⟨ms,rfl,t2⟩⟩
   case array n e=>
    obtain ⟨h,rfl⟩:=t1
    have: ∃arr,v= .agg arr:=by
     simp only [Value.okWide,hu] at hv
     obtain ⟨arr,rfl,_⟩:=hv
     exact ⟨arr,rfl⟩
    obtain ⟨arr,rfl⟩:=this
    refine ⟨.h h,fuel+1,?_,by unfold ME;simp only [hu];exact t2⟩
    have hr:=r1.single
    simp only [Value.cells] at hr
    generalize xN:arr.toList=vs at hr
    cases hr
    show Value.agg arr= .agg _
    rw [←xN]
end
end Dn
/-
  A law of plain data, out of its function's contract. Conditions: none.
-/
set_option linter.unusedSimpArgs false
set_option linter.unusedVariables false
namespace Dn
open Go Go.WideShapes Go.ChangeShapes Go.RowKit
section
variable {H:Type} {enc:TypeId×Value→H} {P:Program} {W W':World} {c:Ctx}
theorem xT (hl:laidOutB P=true) (hb:Below W.heap.size W W'): ∀{ts:List TypeId} {vs:List Value} {ds:List (DataW H)} {ps:List MemPlace},(∀t∈ts,P.readableRec t=true∧t<P.types.size)→
 DataW.TrodAll enc P W 0 (fun _=>true) true ts vs ds ps→(∀x∈ps,x.block<W.heap.size)→DataW.TrodAll enc P W' 0 (fun b=>decide (b<W.heap.size)) true ts vs ds ps
 |[],[],[],_,_,h,_=>h
 |t::ts,v::vs,d::ds,_,ht,⟨p,q,h1,h2,e⟩,hs=>
  ⟨p,q,Below.trod hl (ht t (by simp)).1 (ht t (by simp)).2 h1 hb (fun x hx=>hs x (by rw [e];exact List.mem_append_left _ hx)),
   xT hl hb (fun u hu=>ht u (by simp [hu])) h2 (fun x hx=>hs x (by rw [e];exact List.mem_append_right _ hx)),e⟩
def zL (P:Program):List TypeId→List MV→Prop
 |[],ms=>ms=[]
 |t::ts,ms=> ∃m r,ms=m::r∧(∃n,ME P (MT P n) t m)∧zL P ts r
theorem GG {base:Nat} {sp:Nat→Bool} {held:Bool} {key:Nat→Nat} {r:Reach} {b0:Nat}: ∀{ts:List TypeId} {vs:List Value} {ds:List (DataW H)} {ps:List MemPlace},(∀t∈ts,∃D,V5 P D t=true)→
 (∀(j:Nat) t v,ts[j]? =some t→vs[j]? =some v→Value.okWide P W r b0 t v)→DataW.TrodAll enc P W base sp held ts vs ds ps→ ∃ms,ct key (Ba W) vs ms∧zL P ts ms∧ds.length=ts.length
 |[],[],[],_,_,_,_=>⟨[],rfl,rfl,rfl⟩
 |t::ts,v::vs,d::ds,_,ht,hv,⟨p,q,h1,h2,e⟩=>by
  obtain ⟨D,hD⟩:=ht t (by simp)
  obtain ⟨m,n,r1,t1⟩:=RB (key:=key) hD (hv 0 t v rfl rfl) h1
  obtain ⟨ms,r2,t2,hl⟩:=GG (key:=key) (fun u hu=>ht u (by simp [hu])) (fun j u x hu hx=>hv (j+1) u x (by simpa using hu) (by simpa using hx)) h2
  exact ⟨m::ms,⟨v,vs,rfl,r1,r2⟩,⟨m,ms,rfl,⟨n,t1⟩,t2⟩,by simp [hl]⟩
theorem OR {fn:Func} {f:FuncId} {s:ChangeSpec} {args:Array Value} {ds gs:List (DataW H)} {before:List MemPlace} {tb:TypeId} {base:Nat} (hf:P.funcs[f]? =some fn) (qF:fn.body.isSome=true) (zK:(fn.name== "runtime.NumGoroutine")=false)
 (hl:laidOutB P=true) (aaZ: ∀t∈fn.params.toList,(∃D,V5 P D t=true)∧P.readableRec t=true∧t<P.types.size) (uY:fn.resultTypes= #[tb]) (htb:P.underlying tb=some .bool) (hv:s.vars=[])
 (hfn: ∀ds:List (DataW H),ds.length=fn.params.toList.length→s.fn H ds={results:=[.lit (.bool true)],args:=ds})
 (Cw: ∀(j:Nat) t v,fn.params[j]? =some t→args[j]? =some v→Value.okWide P W .any base t v)
 (hW:DataW.Whole enc P fn.params.toList s.vars false W args.toList ds gs before) (hg:c.fK (c.key f)=false)
 (DA: ∀ms,zL P fn.params.toList ms→kn P c f ms (.b true)):
 Calls P f args W fun e W'=> ∃v,e= .returned v∧s.post enc P fn false true false false W args v W':=by
 have hW':=hW
 obtain ⟨p,q,hA,hV,rfl,Y6,VL⟩:=hW
 rw [hv] at hV
 obtain ⟨rfl,rfl⟩:=trodVars_none hV
 have du: ∀x∈p,x.block<W.heap.size:=fun x hx=>by simpa using hW'.lt x (by simp [hx])
 obtain ⟨ms,r1,t1,TA⟩:=GG (key:=c.key) (fun t ht=>(aaZ t ht).1) (fun j t v h1 h2=>Cw j t v (by simpa using h1) (by simpa using h2)) hA
 have hc:=DA ms t1 (Ba W) W (fun b=>W.heap.size≤b) args.toList (fun b hb=>hb) (by simp only [gf,hg,Bool.false_eq_true,if_false];exact r1) (Rx W)
 have bW:(callFunc f args).run P W= .ok (.enter f args) W:=by
  have HF: ¬fn.name= "runtime.NumGoroutine" :=by simpa using zK
  cases hb:fn.body with
  |none=>rw [hb] at qF;cases qF
  |some b=>simp [callFunc,hf,HF,hb]
 unfold jf at hc
 rw [Array.toArray_toList,bW] at hc
 refine hc.mono ?_
 rintro x W' ⟨v,rfl,φ',ht,mD,hr⟩
 have Y4:v= .bool true:=by
  obtain ⟨_,hr⟩:=hr
  generalize xN:[v]=vs at hr
  cases hr;simpa using xN
 subst Y4
 have RC:Below W.heap.size W W':=⟨ht.rest.1,ht.rest.2.1,ht.rest.2.2.1,ht.size,fun k hk=>ht.heap k (by omega) hk⟩
 have Xq:=hfn (ds++[]) (by simpa using TA)
 refine ⟨_,rfl,ds,[],_,[],p,[],hW',?_,?_,?_,RC.frame _,fun h=>by cases h⟩
 ·rw [Xq,uY]
  exact trodAll_mk1 (shut_bool htb _)
 ·rw [Xq]
  simpa using xT hl RC (fun t ht=>(aaZ t ht).2) hA du
 ·rw [Xq,hv];rfl
end
theorem Nr {α:Type} {f:α→MV} {Q:α→Prop} {R:MV→Prop} {xs:List MV} (h: ∀x,R x→ ∃y,x=f y∧Q y) (hx: ∀x∈xs,R x): ∃L:List α,xs=L.map f∧ ∀y∈L,Q y:=by
 induction xs with
 |nil=>exact ⟨[],rfl,by simp⟩
 |cons x xs ih=>
  obtain ⟨y,rfl,hq⟩:=h x (hx x (by simp))
  obtain ⟨L,rfl,hL⟩:=ih fun z hz=>hx z (by simp [hz])
  exact ⟨y::L,rfl,by simp only [List.mem_cons];rintro z (rfl|hz);exact hq;exact hL z hz⟩
end Dn
/-
  A program's type table, looked through. Conditions: none.
-/
set_option linter.unusedSimpArgs false
set_option linter.unusedVariables false
set_option linter.constructorNameAsVariable false
namespace Dn
open Go
theorem RD {a b:Kd} (h:Vz a b=true):a=b:=by
 cases a<;>cases b<;>simp [Vz,kB] at h<;>first|rfl|(subst h;rfl)
def kp:List Kd→Kd→Bool
 |[k],k'=>Vz k k'
 |_,_=>false
theorem dS {l:List Kd} {k:Kd} (h:kp l k=true):l=[k]:=by
 cases l with
 |nil=>simp [kp] at h
 |cons a l=>cases l with
  |nil=>simp only [kp] at h;rw [RD h]
  |cons=>simp [kp] at h
def B1:List Nat→List Nat→Bool
 |[],[]=>true
 |a::l,b::m=>Nat.beq a b&&B1 l m
 |_,_=>false
theorem DT {l m:List Nat} (h:B1 l m=true):l=m:=by
 induction l generalizing m with
 |nil=>cases m<;>simp [B1] at h;rfl
 |cons a l ih=>
  cases m with
  |nil=>simp [B1] at h
  |cons b m=>
   simp only [B1,Bool.and_eq_true] at h
   rw [Nat.eq_of_beq_eq_true h.1,ih h.2]
def tO {α:Type}:List α→Bool
 |[]=>true
 |_=>false
theorem od {α:Type} {l:List α} (h:tO l=true):l=[]:=by cases l<;>simp [tO] at h;rfl
def H5 (ti:Nat→Option TI) (t:Nat):Bool:=match ti t with|some J=>tO J.cH&&Nat.ble 1 J.size|none=>false
theorem GH {ti:Nat→Option TI} {t:Nat} (h:H5 ti t=true): ∃J,ti t=some J∧J.cH=[]∧0<J.size:=by
 unfold H5 at h
 cases hJ:ti t with
 |none=>simp [hJ] at h
 |some J=>
  simp only [hJ,Bool.and_eq_true] at h
  exact ⟨J,rfl,od h.1,Nat.le_of_ble_eq_true h.2⟩
def DU:List Value→Nat→Bool
 |[],n=>Nat.beq n 0
 | .int .u8 k::r,n+1=>decide (k=0)&&DU r n
 |_,_=>false
theorem JL {l:List Value} {n:Nat} (h:DU l n=true):l=List.replicate n (.int .u8 0):=by
 induction l generalizing n with
 |nil=>have:=Nat.eq_of_beq_eq_true h;subst this;rfl
 |cons v l ih=>
  cases n with
  |zero=>cases v<;>simp [DU] at h
  |succ n=>
   unfold DU at h
   split at h
   ·rename_i h1;simp at h1
   ·rename_i k _ _ h1 h2
    simp only [List.cons.injEq] at h1
    obtain ⟨rfl,rfl⟩:=h1
    cases h2
    simp only [Bool.and_eq_true,decide_eq_true_eq] at h
    rw [h.1,ih h.2];rfl
   ·cases h
def Bc:List aE→aE→Bool
 |[.nil],.nil=>true
 |[.p (.b false)],.p (.b false)=>true
 |[.p (.i k n)],.p (.i k' m)=>kB k k'&&decide (n=m)
 |[.p (.s [])],.p (.s [])=>true
 |_,_=>false
theorem wZ {l:List aE} {x:aE} (h:Bc l x=true):l=[x]:=by
 unfold Bc at h
 split at h<;>first|rfl|skip
 ·simp [kB] at h;rw [h.1,h.2]
 ·cases h
def RE:List aE→Bool
 |[.hs x]=>decide (x=jq.zero)
 |_=>false
theorem RF {l:List aE} (h:RE l=true):l=[.hs jq.zero]:=by
 unfold RE at h
 split at h
 ·rw [of_decide_eq_true h]
 ·cases h
def RG (ti:Nat→Option TI) (P:Program) (I:TI) (z:Option Value):TypeDesc→Bool
 | .struct fs=>I.st&&tO I.cH&&Nat.ble 1 I.size&&Nat.beq (Cs I.lay) I.size&&B1 (fs.toList.map (·.offset)) I.IZ&&B1 (fs.toList.map (·.type)) I.N0&&
  (fs.toList.all fun f=>H5 ti f.type)&&(match z with|some (.agg cs)=>rr I.zero cs.toList&&Nat.beq cs.size I.size|_=>false)
 | .tuple ts=>B1 I.cH ts.toList&&!tO I.cH&&tO I.lay&&!I.st
 | .slice el=>!I.st&&tO I.cH&&Nat.beq I.size 1&&Nat.beq I.elem el&&H5 ti el&&(match z with|some (.slice none 0 0)=>true|_=>false)&&Bc I.zero .nil&&kp I.lay .l
 | .array n el=>!I.st&&tO I.cH&&Nat.beq I.size 32&&Nat.beq n 32&&Nat.beq I.elem el&&(match P.underlying el with|some (.int .u8)=>true|_=>false)&&(match P.info? el with|some i=>Nat.beq i.size 1|none=>false)&&
  kp I.lay .h&&RE I.zero&&(match z with|some (.agg cs)=>DU cs.toList 32|_=>false)
 | .bool=>!I.st&&tO I.cH&&Nat.beq I.size 1&&kp I.lay .b&&Bc I.zero (.p (.b false))&&(match z with|some (.bool false)=>true|_=>false)
 | .int k=>!I.st&&tO I.cH&&Nat.beq I.size 1&&kp I.lay (.i k)&&Bc I.zero (.p (.i k 0))&&(match z with|some (.int k' n)=>kB k' k&&decide (n=0)|_=>false)
 | .string=>!I.st&&tO I.cH&&Nat.beq I.size 1&&kp I.lay .s&&Bc I.zero (.p (.s []))&&(match z with|some (.string b)=>tO b.data.toList|_=>false)
 |_=>!I.st&&tO I.cH&&Nat.beq I.size 1&&kp I.lay .raw&&(match z with|some v=>v.oneCell'&&rr I.zero [v]|none=>false)
theorem RH {ti:Nat→Option TI} {P:Program} {I:TI} {z:Option Value} {d:TypeDesc} (h:RG ti P I z d=true):qB ti P I z d:=by
 cases d<;>simp only [RG,Bool.and_eq_true,Bool.not_eq_true'] at h<;>simp only [qB]
 case struct fs=>
  obtain ⟨⟨⟨⟨⟨⟨⟨h1,h2⟩,h3⟩,h4⟩,h5⟩,h6⟩,h7⟩,h8⟩:=h
  refine ⟨h1,od h2,⟨Nat.le_of_ble_eq_true h3,Nat.eq_of_beq_eq_true h4⟩,DT h5,DT h6,fun k f hk=> ?_,?_⟩
  ·exact GH (List.all_eq_true.1 h7 f (by
    have:fs.toList[k]? =some f:=by simpa using hk
    exact List.mem_of_getElem? this))
  ·split at h8
   ·rename_i cs
    simp only [Bool.and_eq_true] at h8
    exact ⟨cs,rfl,h8.1,Nat.eq_of_beq_eq_true h8.2⟩
   ·cases h8
 case tuple ts=>
  obtain ⟨⟨⟨h1,h2⟩,h3⟩,h4⟩:=h
  exact ⟨DT h1,fun he=>(by rw [he] at h2;simp [tO] at h2),od h3,h4⟩
 case slice el=>
  obtain ⟨⟨⟨⟨⟨⟨⟨h1,h2⟩,h3⟩,h4⟩,h5⟩,h6⟩,h7⟩,h8⟩:=h
  refine ⟨h1,od h2,Nat.eq_of_beq_eq_true h3,Nat.eq_of_beq_eq_true h4,GH h5,?_,wZ h7,.l,dS h8,rfl⟩
  split at h6
  ·rfl
  ·cases h6
 case array n el=>
  obtain ⟨⟨⟨⟨⟨⟨⟨⟨⟨h1,h2⟩,h3⟩,h4⟩,h5⟩,h6⟩,h7⟩,h8⟩,h9⟩,Xr⟩:=h
  refine ⟨h1,od h2,Nat.eq_of_beq_eq_true h3,Nat.eq_of_beq_eq_true h4,Nat.eq_of_beq_eq_true h5,?_,dS h8,RF h9,?_⟩
  ·split at h6
   ·rename_i hu
    split at h7
    ·rename_i i hi;exact ⟨i,hu,hi,Nat.eq_of_beq_eq_true h7⟩
    ·cases h7
   ·cases h6
  ·split at Xr
   ·rename_i cs
    have:=JL Xr
    congr 1
    congr 1
    apply Array.toList_inj.1
    rw [this];rfl
   ·cases Xr
 case bool=>
  obtain ⟨⟨⟨⟨⟨h1,h2⟩,h3⟩,h4⟩,h5⟩,h6⟩:=h
  refine ⟨h1,od h2,Nat.eq_of_beq_eq_true h3,dS h4,wZ h5,?_⟩
  split at h6
  ·rfl
  ·cases h6
 case int k=>
  obtain ⟨⟨⟨⟨⟨h1,h2⟩,h3⟩,h4⟩,h5⟩,h6⟩:=h
  refine ⟨h1,od h2,Nat.eq_of_beq_eq_true h3,dS h4,wZ h5,?_⟩
  split at h6
  ·simp only [kB,Bool.and_eq_true,decide_eq_true_eq] at h6
   rw [h6.1,h6.2]
  ·cases h6
 case string=>
  obtain ⟨⟨⟨⟨⟨h1,h2⟩,h3⟩,h4⟩,h5⟩,h6⟩:=h
  refine ⟨h1,od h2,Nat.eq_of_beq_eq_true h3,dS h4,wZ h5,?_⟩
  split at h6
  ·rename_i b;exact ⟨b,rfl,od h6⟩
  ·cases h6
 all_goals
  obtain ⟨⟨⟨⟨h1,h2⟩,h3⟩,h4⟩,h5⟩:=h
  refine ⟨h1,od h2,Nat.eq_of_beq_eq_true h3,dS h4,?_⟩
  split at h5
  ·rename_i v
   simp only [Bool.and_eq_true] at h5
   exact ⟨v,rfl,h5.1,h5.2⟩
  ·cases h5
def Xs (ti:Nat→Option TI) (P:Program) (t:Nat) (I:TI):Bool:=
 match P.underlying t,P.info? t with
 |some d,some i=>(!tO I.cH||(Nat.beq i.size I.size&&Nat.beq i.bytes I.bytes))&&RG ti P I i.zero d
 |_,_=>false
theorem Uy {ti:Nat→Option TI} {P:Program} {t:Nat} {I:TI} (h:Xs ti P t I=true):nI ti P t I:=by
 unfold Xs at h
 split at h
 ·rename_i d i hu hi
  simp only [Bool.and_eq_true,Bool.or_eq_true,Bool.not_eq_true'] at h
  refine ⟨d,i,hu,hi,fun hc=> ?_,RH h.2⟩
  rcases h.1 with h1|h1
  ·rw [hc] at h1;simp [tO] at h1
  ·exact ⟨Nat.eq_of_beq_eq_true h1.1,Nat.eq_of_beq_eq_true h1.2⟩
 ·cases h
def rJ:List (Nat×TI)→Nat→Option TI
 |[],_=>none
 |(k,s)::r,t=>bif Nat.beq k t then some s else rJ r t
def OS (P:Program) (TB:List (Nat×TI)):Bool:=TB.all fun p=>Xs (rJ TB) P p.1 p.2
theorem GI {l:List (Nat×TI)} {t:Nat} {I:TI} (h:rJ l t=some I):(t,I)∈l:=by
 induction l with
 |nil=>simp [rJ] at h
 |cons p l ih=>
  obtain ⟨k,s⟩:=p
  simp only [rJ,dD] at h
  by_cases hk:k=t
  ·subst hk;simp at h;subst h;simp
  ·simp only [hk,decide_false,cond_false] at h
   exact List.mem_cons_of_mem _ (ih h)
theorem Ns {P:Program} {TB:List (Nat×TI)} (h:OS P TB=true):jI P (rJ TB):=fun t I hI=>Uy (List.all_eq_true.1 h (t,I) (GI hI))
end Dn
/-
  Comparing values of plain types. Conditions: none.
-/
set_option linter.unusedSimpArgs false
set_option linter.unusedVariables false
set_option linter.constructorNameAsVariable false
namespace Dn
open Go
def Uz:List Kd→List Kd
 |[]=>[]
 | .h::r=>List.replicate 32 (.i .u8)++Uz r
 |k::r=>k::Uz r
def H6:Kd→Value→Bool
 | .b,.bool _=>true
 | .i k,.int k' _=>decide (k'=k)
 | .s,.string _=>true
 |_,_=>false
def iI:List Kd→List Value→Prop
 |[],vs=>vs=[]
 |k::ks,vs=> ∃v r,vs=v::r∧H6 k v=true∧iI ks r
def RI:Value→Value→Bool
 | .bool a,.bool b=>decide (a=b)
 | .int _ a,.int _ b=>decide (a=b)
 | .string a,.string b=>decide (a.data.toList=b.data.toList)
 |_,_=>false
def jM:List Value→List Value→Bool
 |[],[]=>true
 |x::xs,y::ys=>RI x y&&jM xs ys
 |_,_=>false
theorem rK {xs ys us vs:List Value} (h:xs.length=ys.length):jM (xs++us) (ys++vs)=(jM xs ys&&jM us vs):=by
 induction xs generalizing ys with
 |nil=>cases ys with|nil=>simp [jM]|cons=>simp at h
 |cons x xs ih=>cases ys with|nil=>simp at h|cons y ys=>simp only [List.cons_append,jM,ih (by simpa using h),Bool.and_assoc]
theorem iI.length {ks:List Kd}: ∀{vs:List Value},iI ks vs→vs.length=ks.length:=by
 induction ks with
 |nil=>intro vs h;cases h;rfl
 |cons k ks ih=>intro vs h;obtain ⟨v,r,rfl,_,h2⟩:=h;simp [ih h2]
theorem iI.append {ks js:List Kd}: ∀{vs us:List Value},iI ks vs→iI js us→iI (ks++js) (vs++us):=by
 induction ks with
 |nil=>intro vs us h h';cases h;simpa using h'
 |cons k ks ih=>intro vs us h h';obtain ⟨v,r,rfl,h1,h2⟩:=h;exact ⟨v,r++us,rfl,h1,ih h2 h'⟩
theorem iI.split {ks js:List Kd}: ∀{vs:List Value},iI (ks++js) vs→iI ks (vs.take ks.length)∧iI js (vs.drop ks.length):=by
 induction ks with
 |nil=>intro vs h;exact ⟨by simp [iI],by simpa using h⟩
 |cons k ks ih=>
  intro vs h
  obtain ⟨v,r,rfl,h1,h2⟩:=h
  obtain ⟨h3,h4⟩:=ih h2
  exact ⟨⟨v,_,rfl,h1,h3⟩,by simpa using h4⟩
theorem DW (x:jq):iI (List.replicate 32 (.i .u8)) (bq x):=by
 have: ∀(l:List UInt8),iI (List.replicate l.length (.i .u8)) (l.map fun b=>Value.int .u8 (b.toNat:Int)):=by
  intro l
  induction l with
  |nil=>rfl
  |cons b l ih=>exact ⟨_,_,rfl,by simp [H6],ih⟩
 have h:=this x.l
 rw [x.h] at h
 exact h
theorem GJ (x y:jq):jM (bq x) (bq y)=decide (x=y):=by
 have: ∀(l m:List UInt8),l.length=m.length→jM (l.map fun b=>Value.int .u8 (b.toNat:Int)) (m.map fun b=>Value.int .u8 (b.toNat:Int))=decide (l=m):=by
  intro l
  induction l with
  |nil=>intro m h;cases m with|nil=>rfl|cons=>simp at h
  |cons b l ih=>
   intro m h
   cases m with
   |nil=>simp at h
   |cons b' m=>
    simp only [List.map_cons,jM,RI,ih m (by simpa using h),List.cons.injEq]
    have:((b.toNat:Int)=(b'.toNat:Int))↔b=b':=by
     constructor
     ·intro he;apply UInt8.toNat_inj.1;omega
     ·intro he;rw [he]
    simp [this]
 rw [bq,bq,this x.l y.l (by rw [x.h,y.h])]
 by_cases h:x=y
 ·subst h;simp
 ·have:x.l≠y.l:=fun he=>h (jq.ext' he)
  simp [h,this]
section
variable {e:Env}
theorem GK {lay:List Kd}: ∀{ls:List aE} {vs:List Value},ax e vs ls→eG lay ls=true→iI (Uz lay) vs:=by
 induction lay with
 |nil=>
  intro ls vs h hf
  cases ls with
  |nil=>cases h;rfl
  |cons=>simp [eG] at hf
 |cons k lay ih=>
  intro ls vs h hf
  cases ls with
  |nil=>simp [eG] at hf
  |cons l ls=>
   simp only [eG] at hf
   cases h1:lX k l with
   |false=>simp [h1] at hf
   |true=>
    simp only [h1,cond_true] at hf
    obtain ⟨v,u,rfl,g1,g2⟩:=h
    have hr:=ih g2 hf
    have one: ∀m:MV,∀kd:Kd,l= .p m→(∀w:List Value,kR e.key e.φ w m→ ∃x,w=[x]∧H6 kd x=true)→iI (kd::Uz lay) (v++u):=by
     intro m kd hl hm
     subst hl
     obtain ⟨x,rfl,hx⟩:=hm v g1.2
     exact ⟨x,u,rfl,hx,hr⟩
    cases k<;>cases l<;>simp only [lX] at h1<;>try (cases h1;done)
    ·rename_i m
     cases m<;>simp only [lX] at h1<;>try (cases h1;done)
     exact one _ _ rfl (fun w hw=>by cases hw;exact ⟨_,rfl,rfl⟩)
    ·rename_i k m
     cases m<;>simp only [lX] at h1<;>try (cases h1;done)
     exact one _ _ rfl (fun w hw=>by cases hw;exact ⟨_,rfl,h1⟩)
    ·rename_i m
     cases m<;>simp only [lX] at h1<;>try (cases h1;done)
     exact one _ _ rfl (fun w hw=>by cases hw;exact ⟨_,rfl,rfl⟩)
    ·rename_i x
     have g1:v=bq x:=g1
     subst g1
     exact (DW x).append hr
theorem FL {l l':aE} {v v':List Value} {b:Bool} (h:aO e v l) (h':aO e v' l') (hb:AV l l'=some b):jM v v'=b∧v.length=v'.length:=by
 unfold AV at hb
 split at hb
 ·obtain ⟨_,h⟩:=h;obtain ⟨_,h'⟩:=h'
  cases h;cases h'
  simp at hb;exact ⟨by simp [jM,RI,←hb],rfl⟩
 ·obtain ⟨_,h⟩:=h;obtain ⟨_,h'⟩:=h'
  cases h;cases h'
  rename_i k x k' y _ _
  cases hk:decide (k=k') with
  |false=>simp [hk] at hb
  |true=>simp [hk] at hb;exact ⟨by simp [jM,RI,←hb],rfl⟩
 ·obtain ⟨_,h⟩:=h;obtain ⟨_,h'⟩:=h'
  cases h;cases h'
  simp at hb;exact ⟨by simp [jM,RI,←hb],rfl⟩
 ·rename_i x y
  have h:v=bq x:=h
  have h':v'=bq y:=h'
  subst h;subst h'
  simp at hb
  exact ⟨by rw [GJ,←hb],by rw [cJ,cJ]⟩
 ·cases hb
theorem RJ {ls:List aE}: ∀{uN:List aE} {vs KW:List Value} {b:Bool},ax e vs ls→ax e KW uN→iD ls uN=some b→jM vs KW=b:=by
 induction ls with
 |nil=>
  intro uN vs KW b h h' hb
  cases uN with
  |nil=>cases h;cases h';simp [iD] at hb;subst hb;rfl
  |cons l' uN=>simp [iD] at hb
 |cons l ls ih=>
  intro uN vs KW b h h' hb
  cases uN with
  |nil=>simp [iD] at hb
  |cons l' uN=>
   obtain ⟨v,u,rfl,h1,h2⟩:=h
   obtain ⟨v',u',rfl,CU,Jm⟩:=h'
   have two: ∀x y,AV l l'=some x→iD ls uN=some y→b=(x&&y)→jM (v++u) (v'++u')=b:=by
    intro x y hx hy Xe
    obtain ⟨g1,g2⟩:=FL h1 CU hx
    rw [rK g2,g1,ih h2 Jm hy,Xe]
   cases ls with
   |nil=>
    cases uN with
    |nil=>
     have hb:AV l l'=some b:=hb
     exact two b true hb rfl (by simp)
    |cons p q=>
     simp only [iD] at hb
     split at hb
     ·rename_i x y hx hy;exact two x y hx hy (by simpa using hb.symm)
     ·cases hb
   |cons p q=>
    simp only [iD] at hb
    split at hb
    ·rename_i x y hx hy;exact two x y hx hy (by simpa using hb.symm)
    ·cases hb
end
def sa (F:TypeId→Option (List Kd)) (P:Program):List Field→Nat→Nat→Option (List Kd)
 |[],o,n=>bif Nat.beq o n then some [] else none
 |f::fs,o,n=>match F f.type with
  |some ks=>bif Nat.beq f.offset o&&Nat.beq ks.length (P.cellsOf f.type)&&!(f.name== "_") then (match sa F P fs (o+ks.length) n with|some r=>some (ks++r)|none=>none) else none
  |none=>none
def JM:Nat→List Kd→List Kd
 |0,_=>[]
 |n+1,ks=>ks++JM n ks
def lP (P:Program):Nat→TypeId→Option (List Kd)
 |0,_=>none
 |d+1,t=>match P.underlying t with
  |some .bool=>some [.b]
  |some (.int k)=>some [.i k]
  |some .string=>some [.s]
  |some (.array n e)=>match lP P d e with
   |some ks=>bif Nat.beq ks.length (P.cellsOf e)&&(match P.info? e with|some _=>true|none=>false) then some (JM n ks) else none
   |none=>none
  |some (.struct fs)=>bif P.stoodInHeld t then none else sa (lP P d) P fs.toList 0 (P.cellsOf t)
  |_=>none
def FM:TypeDesc→Bool
 | .struct _=>true
 | .array _ _=>true
 |_=>false
theorem DX {F:TypeId→Option (List Kd)} {P:Program}: ∀(fs:List Field) (o n:Nat) (ks:List Kd),sa F P fs o n=some ks→o+ks.length=n:=by
 intro fs
 induction fs with
 |nil=>
  intro o n ks hk
  simp only [sa] at hk
  cases hb:Nat.beq o n with
  |false=>simp [hb] at hk
  |true=>simp [hb] at hk;subst hk;simpa using Nat.eq_of_beq_eq_true hb
 |cons f fs ihf=>
  intro o n ks hk
  simp only [sa] at hk
  cases hf:F f.type with
  |none=>simp [hf] at hk
  |some js=>
   simp only [hf] at hk
   cases hc:Nat.beq f.offset o&&Nat.beq js.length (P.cellsOf f.type)&&!(f.name== "_") with
   |false=>simp [hc] at hk
   |true=>
    simp only [hc,cond_true] at hk
    cases hr:sa F P fs (o+js.length) n with
    |none=>simp [hr] at hk
    |some rs=>
     simp only [hr,Option.some.injEq] at hk
     subst hk
     have:=ihf _ _ _ hr
     simp only [List.length_append];omega
def q9 (P:Program) (t:TypeId) (v:Value) (cs:List Value):Prop:=
 match P.underlying t with
 |some (.struct _)|some (.array _ _)=>v= .agg cs.toArray
 |_=>cs=[v]
theorem JN (n:Nat) (ks:List Kd):(JM n ks).length=n *ks.length:=by
 induction n with
 |zero=>simp [JM]
 |succ n ih=>simp only [JM,List.length_append,ih,Nat.succ_mul];omega
section
variable {P:Program} {w:World}
theorem xa {t:TypeId} {xs:Array Value} {off:Nat} {n:Nat} {d:TypeDesc} (hu:P.underlying t=some d) (hn:P.cellsOf t=n) (lY:FM d=false→n=1) (hl:off+n≤xs.size):
 ∃v,(Go.part t xs off).run P w= .ok v w∧q9 P t v ((xs.toList.drop off).take n):=by
 obtain ⟨i,hi⟩:=info_of_underlying hu
 have qk:i.size=n:=by rw [←hn];simp [Program.cellsOf,hi]
 cases hd:FM d with
 |true=>
  refine ⟨.agg (xs.extract off (off+n)),?_,?_⟩
  ·cases d<;>simp [FM] at hd<;>simp [Go.part,isAgg,run_underlying hu,Go.sizeOf,typeInfo,hi,qk]
  ·have he:(xs.extract off (off+n))=((xs.toList.drop off).take n).toArray:=by
    apply Array.toList_inj.1
    rw [Array.toList_extract];simp [List.extract]
   unfold q9
   cases d<;>simp [FM] at hd<;>simp only [hu]<;>rw [he]
 |false=>
  have IP:=lY hd
  subst IP
  have du:off<xs.size:=by omega
  refine ⟨xs[off],?_,?_⟩
  ·cases d<;>simp [FM] at hd<;>simp [Go.part,isAgg,run_underlying hu,du]
  ·have he:(xs.toList.drop off).take 1=[xs[off]]:=by
    rw [List.take_one,List.head?_drop];simp [du]
   unfold q9
   cases d<;>simp [FM] at hd<;>simp only [hu]<;>exact he
theorem OT {F:TypeId→Option (List Kd)} {dd:Nat} {xs ys:Array Value}: ∀(fs:List Field) (o n:Nat) (ks:List Kd),sa F P fs o n=some ks→xs.size=n→ys.size=n→iI ks (xs.toList.drop o)→iI ks (ys.toList.drop o)→
 (∀f∈fs,∀js,F f.type=some js→(∃d,P.underlying f.type=some d∧(FM d=false→js.length=1))∧
  ∀(x y:Value) (us vs:List Value),q9 P f.type x us→q9 P f.type y vs→iI js us→iI js vs→(Op.equalIn dd f.type x y).run P w= .ok (jM us vs) w)→
 (Op.eqFields dd xs ys fs).run P w= .ok (jM (xs.toList.drop o) (ys.toList.drop o)) w:=by
 intro fs
 induction fs with
 |nil=>
  intro o n ks hk hx hy _ _ _
  simp only [sa] at hk
  cases hb:Nat.beq o n with
  |false=>simp [hb] at hk
  |true=>
   have hb:=Nat.eq_of_beq_eq_true hb
   have h1:xs.toList.drop o=[]:=List.drop_eq_nil_of_le (by simp [hx,hb])
   have h2:ys.toList.drop o=[]:=List.drop_eq_nil_of_le (by simp [hy,hb])
   rw [h1,h2]
   simp [Op.eqFields,jM]
 |cons f fs ih=>
  intro o n ks hk hx hy fx fy hF
  simp only [sa] at hk
  cases hf:F f.type with
  |none=>simp [hf] at hk
  |some js=>
   simp only [hf] at hk
   cases hc:Nat.beq f.offset o&&Nat.beq js.length (P.cellsOf f.type)&&!(f.name== "_") with
   |false=>simp [hc] at hk
   |true=>
    simp only [hc,cond_true] at hk
    simp only [Bool.and_eq_true,Bool.not_eq_true'] at hc
    obtain ⟨⟨h1,h2⟩,h3⟩:=hc
    have h1:=Nat.eq_of_beq_eq_true h1
    have h2:=Nat.eq_of_beq_eq_true h2
    have h3:f.name≠ "_" :=by intro he;rw [he] at h3;simp at h3
    cases hr:sa F P fs (o+js.length) n with
    |none=>simp [hr] at hk
    |some rs=>
     simp only [hr,Option.some.injEq] at hk
     subst hk
     obtain ⟨fx1,fx2⟩:=fx.split
     obtain ⟨fy1,fy2⟩:=fy.split
     rw [List.drop_drop] at fx2 fy2
     have lx:=fx.length
     have ly:=fy.length
     simp only [List.length_drop,List.length_append,Array.length_toList] at lx ly
     obtain ⟨⟨d,hu,lY⟩,gu⟩:=hF f (by simp) js hf
     by_cases hz:o+js.length≤xs.size∧o+js.length≤ys.size
     ·obtain ⟨x,px,wx⟩:=xa (w:=w) (xs:=xs) (off:=f.offset) hu h2.symm lY (by rw [h1];exact hz.1)
      obtain ⟨y,py,wy⟩:=xa (w:=w) (xs:=ys) (off:=f.offset) hu h2.symm lY (by rw [h1];exact hz.2)
      rw [h1] at wx wy
      have he:=gu x y _ _ wx wy fx1 fy1
      have xU:=ih (o+js.length) n rs hr hx hy fx2 fy2 (fun g hg=>hF g (by simp [hg]))
      simp only [Op.eqFields,h3,ne_eq,not_false_eq_true,if_true,Sem.run_bind,px,py,he,Result.andThen_ok]
      have yB:jM (xs.toList.drop o) (ys.toList.drop o)=(jM ((xs.toList.drop o).take js.length) ((ys.toList.drop o).take js.length)&&jM (xs.toList.drop (o+js.length)) (ys.toList.drop (o+js.length))):=by
       rw [←List.drop_drop,←List.drop_drop,←rK (by rw [fx1.length,fy1.length]),List.take_append_drop,List.take_append_drop]
      rw [yB]
      cases jM ((xs.toList.drop o).take js.length) ((ys.toList.drop o).take js.length)
      ·simp
      ·simpa using xU
     ·exfalso
      have:=DX _ _ _ _ hr
      omega
theorem RL {e:TypeId} {dd:Nat} {xs ys:Array Value} {js:List Kd} (Fz:js.length=P.cellsOf e) (hd: ∃d,P.underlying e=some d∧(FM d=false→js.length=1))
 (gu: ∀(x y:Value) (us vs:List Value),q9 P e x us→q9 P e y vs→iI js us→iI js vs→(Op.equalIn dd e x y).run P w= .ok (jM us vs) w):
 ∀(m i:Nat),xs.size=(i+m) *js.length→ys.size=(i+m) *js.length→iI (JM m js) (xs.toList.drop (i *js.length))→iI (JM m js) (ys.toList.drop (i *js.length))→
 (Op.eqItems dd e (P.cellsOf e) xs ys (List.range' i m)).run P w= .ok (jM (xs.toList.drop (i *js.length)) (ys.toList.drop (i *js.length))) w:=by
 intro m
 induction m with
 |zero=>
  intro i hx hy _ _
  have h1:xs.toList.drop (i *js.length)=[]:=List.drop_eq_nil_of_le (by simp [hx])
  have h2:ys.toList.drop (i *js.length)=[]:=List.drop_eq_nil_of_le (by simp [hy])
  rw [h1,h2]
  simp [Op.eqItems,jM]
 |succ m ih=>
  intro i hx hy fx fy
  simp only [JM] at fx fy
  obtain ⟨fx1,fx2⟩:=fx.split
  obtain ⟨fy1,fy2⟩:=fy.split
  have hmul:i *js.length+js.length=(i+1) *js.length:=by rw [Nat.succ_mul]
  rw [List.drop_drop,hmul] at fx2 fy2
  obtain ⟨d,hu,lY⟩:=hd
  have hle:(i+1) *js.length≤(i+(m+1)) *js.length:=Nat.mul_le_mul_right _ (by omega)
  obtain ⟨x,px,wx⟩:=xa (w:=w) (xs:=xs) (off:=i *js.length) hu Fz.symm lY (by omega)
  obtain ⟨y,py,wy⟩:=xa (w:=w) (xs:=ys) (off:=i *js.length) hu Fz.symm lY (by omega)
  have he:=gu x y _ _ wx wy fx1 fy1
  have xU:=ih (i+1) (by rw [hx];congr 1;omega) (by rw [hy];congr 1;omega) fx2 fy2
  rw [List.range'_succ]
  simp only [Op.eqItems,Sem.run_bind,←Fz,px,py,he,Result.andThen_ok]
  have yB:jM (xs.toList.drop (i *js.length)) (ys.toList.drop (i *js.length))=(jM ((xs.toList.drop (i *js.length)).take js.length) ((ys.toList.drop (i *js.length)).take js.length)&&jM (xs.toList.drop ((i+1) *js.length)) (ys.toList.drop ((i+1) *js.length))):=by
   rw [←hmul,←List.drop_drop,←List.drop_drop,←rK (by rw [fx1.length,fy1.length]),List.take_append_drop,List.take_append_drop]
  rw [yB]
  cases jM ((xs.toList.drop (i *js.length)).take js.length) ((ys.toList.drop (i *js.length)).take js.length)
  ·simp
  ·rw [←Fz] at xU;simpa using xU
theorem GL: ∀(d:Nat) (t:TypeId) (ks:List Kd),lP P d t=some ks→ ∃k,P.underlying t=some k∧(FM k=false→ks.length=1):=by
 intro d t ks h
 cases d with
 |zero=>simp [lP] at h
 |succ d=>
  simp only [lP] at h
  cases hu:P.underlying t with
  |none=>simp [hu] at h
  |some k=>
   refine ⟨k,rfl,fun ha=> ?_⟩
   cases k<;>simp only [hu] at h<;>first
    |(simp only [Option.some.injEq] at h;subst h;rfl)
    |(cases h;done)
    |(simp [FM] at ha;done)
theorem B2: ∀(d:Nat) (t:TypeId) (ks:List Kd),lP P d t=some ks→ ∀(m:Nat) (x y:Value) (us vs:List Value),q9 P t x us→q9 P t y vs→iI ks us→iI ks vs→
 (Op.equalIn (m+d) t x y).run P w= .ok (jM us vs) w:=by
 intro d
 induction d with
 |zero=>intro t ks h;simp [lP] at h
 |succ d ih=>
  intro t ks h m x y us vs hx hy fx fy
  simp only [lP] at h
  have hmd:m+(d+1)=(m+d)+1:=rfl
  rw [hmd]
  cases hu:P.underlying t with
  |none=>simp [hu] at h
  |some k=>
   cases k<;>simp only [hu] at h<;>try (cases h;done)
   case bool=>
    simp only [Option.some.injEq] at h;subst h
    simp only [q9,hu] at hx hy
    subst hx;subst hy
    obtain ⟨v,r,h1,h2,h3⟩:=fx
    obtain ⟨v',r',CU,Jm,h3'⟩:=fy
    simp at h1 CU
    obtain ⟨rfl,_⟩:=h1
    obtain ⟨rfl,_⟩:=CU
    cases x<;>simp [H6] at h2
    cases y<;>simp [H6] at Jm
    rename_i a b
    rw [run_equalIn_bool' w _ t a b hu]
    simp [jM,RI]
    cases a<;>cases b<;>rfl
   case int k=>
    simp only [Option.some.injEq] at h;subst h
    simp only [q9,hu] at hx hy
    subst hx;subst hy
    obtain ⟨v,r,h1,h2,h3⟩:=fx
    obtain ⟨v',r',CU,Jm,h3'⟩:=fy
    simp at h1 CU
    obtain ⟨rfl,_⟩:=h1
    obtain ⟨rfl,_⟩:=CU
    cases x<;>simp [H6] at h2
    cases y<;>simp [H6] at Jm
    subst h2;subst Jm
    rw [run_equalIn_int w _ t _ _ _ _ hu]
    simp only [jM,RI,Bool.and_true]
    congr 1
   case string=>
    simp only [Option.some.injEq] at h;subst h
    simp only [q9,hu] at hx hy
    subst hx;subst hy
    obtain ⟨v,r,h1,h2,h3⟩:=fx
    obtain ⟨v',r',CU,Jm,h3'⟩:=fy
    simp at h1 CU
    obtain ⟨rfl,_⟩:=h1
    obtain ⟨rfl,_⟩:=CU
    cases x<;>simp [H6] at h2
    cases y<;>simp [H6] at Jm
    rw [run_equalIn_string w _ t _ _ hu]
    simp only [jM,RI,Bool.and_true,toList_data]
    congr 1
    exact Bool.beq_eq_decide_eq _ _
   case array n e=>
    cases hke:lP P d e with
    |none=>simp [hke] at h
    |some js=>
     simp only [hke] at h
     cases hc:Nat.beq js.length (P.cellsOf e)&&(match P.info? e with|some _=>true|none=>false) with
     |false=>simp [hc] at h
     |true=>
      simp only [hc,cond_true,Option.some.injEq] at h
      subst h
      simp only [Bool.and_eq_true] at hc
      have Fz:=Nat.eq_of_beq_eq_true hc.1
      obtain ⟨i,hi⟩: ∃i,P.info? e=some i:=by
       cases hi:P.info? e with
       |none=>rw [hi] at hc;simp at hc
       |some i=>exact ⟨i,rfl⟩
      simp only [q9,hu] at hx hy
      subst hx;subst hy
      rw [run_equalIn_array w (m+d) us.toArray vs.toArray hu hi,List.range_eq_range']
      have l1:=fx.length
      have l2:=fy.length
      rw [JN] at l1 l2
      have:=RL (w:=w) (xs:=us.toArray) (ys:=vs.toArray) (js:=js) (dd:=m+d) Fz (GL d e js hke) (fun x y us vs a b c d'=>ih e js hke m x y us vs a b c d') n 0 (by simpa using l1) (by simpa using l2) (by simpa using fx) (by simpa using fy)
      simpa using this
   case struct fs=>
    cases iw:P.stoodInHeld t with
    |true=>simp [iw] at h
    |false=>
     simp only [iw,cond_false] at h
     simp only [q9,hu] at hx hy
     subst hx;subst hy
     have Rk:P.fieldsOf t=fs:=by simp [Program.fieldsOf,hu]
     rw [run_equalIn_struct w (m+d) t us.toArray vs.toArray (by rw [Rk];exact hu) iw,Rk]
     have hl:=DX _ _ _ _ h
     have:=OT (w:=w) (dd:=m+d) (xs:=us.toArray) (ys:=vs.toArray) fs.toList 0 (P.cellsOf t) ks h (by simp [fx.length];omega) (by simp [fy.length];omega) (by simpa using fx) (by simpa using fy)
      (fun f hf js hjs=>⟨GL d f.type js hjs,fun x y us vs a b c d'=>ih f.type js hjs m x y us vs a b c d'⟩)
     simpa using this
end
theorem Nt {l m:List Kd} (h:zm l m=true):l=m:=by
 induction l generalizing m with
 |nil=>cases m<;>simp [zm] at h;rfl
 |cons a l ih=>
  cases m with
  |nil=>simp [zm] at h
  |cons b m=>
   simp only [zm,Bool.and_eq_true] at h
   rw [RD h.1,ih h.2]
def LV:List Kd→Bool
 |[]=>true
 | .l::_=>false
 | .raw::_=>false
 |_::r=>LV r
def eqB (P:Program) (t:Nat) (I:TI):Bool:=
 !LV I.lay||!tO I.cH||((match lP P 20 t with|some ks=>zm ks (Uz I.lay)|none=>false)&&!P.eqGuardType P.depth t&&
  (match P.underlying t with|some (.struct _)=>I.st|some (.array _ _)=>!I.st&&kp I.lay .h|some .bool=>!I.st&&kp I.lay .b|some (.int k)=>!I.st&&kp I.lay (.i k)|some .string=>!I.st&&kp I.lay .s|_=>false))
def Xt (P:Program) (TB:List (Nat×TI)):Bool:=TB.all fun p=>eqB P p.1 p.2
theorem OU {lay:List Kd}: ∀{ls:List aE},eG lay ls=true→LV lay=true:=by
 induction lay with
 |nil=>intro ls _;rfl
 |cons k lay ih=>
  intro ls h
  cases ls with
  |nil=>simp [eG] at h
  |cons l ls=>
   simp only [eG] at h
   cases h1:lX k l with
   |false=>simp [h1] at h
   |true=>
    simp only [h1,cond_true] at h
    have:=ih h
    cases k<;>first|exact this|(cases l<;>simp [lX] at h1)
theorem OV {t:TypeId} {x y:Value} (h:(∃b,x= .bool b)∨ ∃cs,x= .agg cs) (op:BinOp):
 (op= .eql→binOp op t x y=(do pure (.bool (←Op.equal t x y))))∧(op= .neq→binOp op t x y=(do pure (.bool (!(←Op.equal t x y))))):=by
 rcases h with ⟨b,rfl⟩|⟨cs,rfl⟩<;>refine ⟨?_,?_⟩<;>rintro rfl<;>cases y<;>rfl
theorem OW {P:Program} {TB:List (Nat×TI)} (h:Xt P TB=true):HE P (rJ TB):=by
 intro t I hI hc e w vx vy sx sy b rx ry fx fy Xu Xv hb n1 n2
 have hr:=List.all_eq_true.1 h (t,I) (GI hI)
 simp only [eqB,OU fx,Bool.not_true,Bool.false_or] at hr
 rw [hc] at hr
 simp only [tO,Bool.not_true,Bool.false_or,Bool.and_eq_true,Bool.not_eq_true'] at hr
 obtain ⟨⟨hk,hg⟩,hd⟩:=hr
 cases K0:lP P 20 t with
 |none=>simp [K0] at hk
 |some ks=>
  simp only [K0] at hk
  have hk:=Nt hk
  subst hk
  have cells: ∀(v:Value) (s:Slot),ae e v s→eG I.lay (aK s)=true→lu I.st s=true→(∃us,q9 P t v us∧ax e us (aK s))∧((∃b,v= .bool b)∨(∃cs,v= .agg cs)∨(∃k n,s= .sc (.p (.i k n)))∨ ∃l,s= .sc (.p (.s l))):=by
   intro v s hv hf hs
   cases s<;>simp only [lu] at hs<;>try (cases hs;done)
   ·rename_i l
    have iw:I.st=false:=by simpa using hs
    cases hu:P.underlying t with
    |none=>simp [hu] at hd
    |some d=>
     simp only [hu] at hd
     cases d<;>simp only [iw,Bool.not_false,Bool.true_and] at hd<;>try (cases hd;done)
     ·have hl:=dS hd
      rw [hl] at hf
      simp only [aK,eG] at hf
      cases l<;>simp [lX] at hf
      rename_i m
      cases m<;>simp [lX] at hf
      have:=vC hv
      exact ⟨⟨[v],by simp [q9,hu],[v],[],rfl,hv,rfl⟩,.inl ⟨_,this⟩⟩
     ·have hl:=dS hd
      rw [hl] at hf
      simp only [aK,eG] at hf
      cases l<;>simp [lX] at hf
      rename_i m
      cases m<;>simp [lX] at hf
      exact ⟨⟨[v],by simp [q9,hu],[v],[],rfl,hv,rfl⟩,.inr (.inr (.inl ⟨_,_,rfl⟩))⟩
     ·have hl:=dS hd
      rw [hl] at hf
      simp only [aK,eG] at hf
      cases l<;>simp [lX] at hf
      rename_i m
      cases m<;>simp [lX] at hf
      exact ⟨⟨[v],by simp [q9,hu],[v],[],rfl,hv,rfl⟩,.inr (.inr (.inr ⟨_,rfl⟩))⟩
     ·have hl:=dS hd
      rw [hl] at hf
      simp only [aK,eG] at hf
      cases l<;>simp [lX] at hf
      rename_i x
      have hv:v= .agg (bq x).toArray:=hv
      exact ⟨⟨bq x,by simp [q9,hu,hv],bq x,[],by simp,rfl,rfl⟩,.inr (.inl ⟨_,hv⟩)⟩
   ·rename_i cs
    cases hu:P.underlying t with
    |none=>simp [hu] at hd
    |some d=>
     simp only [hu] at hd
     cases d<;>simp only [hs,Bool.not_true,Bool.false_and] at hd<;>try (cases hd;done)
     obtain ⟨arr,hv,pP⟩:=hv
     exact ⟨⟨arr.toList,by simp [q9,hu,hv],pP⟩,.inr (.inl ⟨_,hv⟩)⟩
  obtain ⟨⟨us,wx,lx⟩,kx⟩:=cells vx sx rx fx Xu
  obtain ⟨⟨vs,wy,ly⟩,ky⟩:=cells vy sy ry fy Xv
  have gu:(Op.equal t vx vy).run P w= .ok b w:=by
   have:=B2 (P:=P) (w:=w) 20 t _ K0 9980 vx vy us vs wx wy (GK lx fx) (GK ly fy)
   rw [RJ lx ly hb] at this
   exact this
  refine ⟨gu,fun x y op=> ?_⟩
  have Zh:(∃b,vx= .bool b)∨ ∃cs,vx= .agg cs:=by
   rcases kx with h1|h1|⟨k,n,h1⟩|⟨l,h1⟩
   ·exact .inl h1
   ·exact .inr h1
   ·exfalso
    subst h1
    cases hu:P.underlying t with
    |none=>simp [hu] at hd
    |some d=>
     simp only [aK] at fx fy hb
     cases RM:I.lay with
     |nil=>rw [RM] at fx;simp [eG] at fx
     |cons k0 r0=>
      rw [RM] at fx fy
      simp only [eG] at fx
      cases k0<;>simp [lX] at fx
      obtain ⟨hk0,UA⟩:=fx
      have UA:r0=[]:=by cases r0<;>simp [eG] at UA;rfl
      subst UA
      cases sy<;>simp only [lu] at Xu Xv<;>try (cases Xv;done)
      ·rename_i l
       simp only [aK,eG] at fy
       cases l<;>simp [lX] at fy
       rename_i m
       cases m<;>simp [lX] at fy
       exact n1 _ _ _ _ rfl rfl
      ·rw [Xv] at Xu;cases Xu
   ·exfalso
    subst h1
    simp only [aK] at fx fy hb
    cases RM:I.lay with
    |nil=>rw [RM] at fx;simp [eG] at fx
    |cons k0 r0=>
     rw [RM] at fx fy
     simp only [eG] at fx
     cases k0<;>simp [lX] at fx
     have UA:r0=[]:=by cases r0<;>simp [eG] at fx;rfl
     subst UA
     cases sy<;>simp only [lu] at Xu Xv<;>try (cases Xv;done)
     ·rename_i l
      simp only [aK,eG] at fy
      cases l<;>simp [lX] at fy
      rename_i m
      cases m<;>simp [lX] at fy
      exact n2 _ _ rfl rfl
     ·rw [Xv] at Xu;cases Xu
  refine ⟨?_,OV Zh op⟩
  have WS:P.eqGuardType P.depth t=false:=hg
  rcases Zh with ⟨bb,rfl⟩|⟨cs,rfl⟩
  ·cases op<;>rfl
  ·cases vy<;>cases op<;>first|rfl|(simp [eqGuard,WS])
end Dn
/-
  A program's types of maps, looked through. Conditions: none.
-/
set_option linter.unusedSimpArgs false
set_option linter.unusedVariables false
set_option linter.constructorNameAsVariable false
namespace Dn
open Go
theorem H7 {lay:List Kd}: ∀{ks:List MV},cZ lay ks=true→iI (Uz lay) (ks.flatMap AS):=by
 induction lay with
 |nil=>intro ks h;cases ks with|nil=>rfl|cons=>simp [cZ] at h
 |cons k lay ih=>
  intro ks h
  cases ks with
  |nil=>simp [cZ] at h
  |cons m ks=>
   simp only [cZ,Bool.and_eq_true] at h
   have h2:=ih h.2
   have h1:=h.1
   cases k<;>cases m<;>simp only [A2] at h1<;>try (cases h1;done)
   ·exact ⟨_,_,rfl,rfl,h2⟩
   ·exact ⟨_,_,rfl,h1,h2⟩
   ·exact ⟨_,_,rfl,rfl,h2⟩
   ·exact (DW _).append h2
theorem UB {lay:List Kd}: ∀{a b:List MV},cZ lay a=true→cZ lay b=true→jM (a.flatMap AS) (b.flatMap AS)=dK b a:=by
 induction lay with
 |nil=>
  intro a b ha hb
  cases a<;>cases b<;>simp [cZ] at ha hb
  rfl
 |cons k lay ih=>
  intro a b ha hb
  cases a with
  |nil=>simp [cZ] at ha
  |cons x a=>
   cases b with
   |nil=>simp [cZ] at hb
   |cons y b=>
    simp only [cZ,Bool.and_eq_true] at ha hb
    have ih:=ih ha.2 hb.2
    have h1:=ha.1
    have h2:=hb.1
    cases k<;>cases x<;>simp only [A2] at h1<;>try (cases h1;done)
    all_goals cases y<;>simp only [A2] at h2<;>try (cases h2;done)
    ·rename_i p q
     simp only [List.flatMap_cons,AS,List.cons_append,List.nil_append,jM,RI,dK,AW,ih]
     congr 1;rw [decide_eq_decide];exact eq_comm
    ·rename_i k1 p k2 q
     have e1:=of_decide_eq_true h1
     have e2:=of_decide_eq_true h2
     subst e1;subst e2
     simp only [List.flatMap_cons,AS,List.cons_append,List.nil_append,jM,RI,dK,AW,ih,decide_true,Bool.true_and]
     congr 1;rw [decide_eq_decide];exact eq_comm
    ·rename_i p q
     simp only [List.flatMap_cons,AS,List.cons_append,List.nil_append,jM,RI,dK,AW,ih]
     congr 1;rw [decide_eq_decide];simp [eq_comm]
    ·rename_i p q
     simp only [List.flatMap_cons,AS,dK,AW]
     rw [rK (by rw [cJ,cJ]),GJ,ih]
     congr 1;rw [decide_eq_decide];exact eq_comm
def Bd:TypeDesc→Bool
 | .bool| .int _| .string=>true
 |_=>false
def aa4 (P:Program) (n:Nat) (fs:List Field):Bool:=fs.all fun f=>(match P.underlying f.type with|some d=>Bd d|none=>false)&&Nat.ble (f.offset+1) n
def V7 (P:Program) (kt:Nat) (I:TI):Bool:=match P.underlying kt with
 |some .bool=>!I.st&&kp I.lay .b
 |some (.int k)=>!I.st&&kp I.lay (.i k)
 |some .string=>!I.st&&kp I.lay .s
 |some (.struct fs)=>I.st&&(match lP P 20 kt with|some ks=>zm ks (Uz I.lay)|none=>false)&&aa4 P (Uz I.lay).length fs.toList
 |_=>false
def V8 (b:Bool):Option Value→Bool
 |some (.bool false)=>b
 |some (.int .i64 n)=>!b&&decide (n=0)
 |_=>false
def aa5 (P:Program) (ti:Nat→Option TI) (t kt:Nat) (b:Bool):Bool:=match P.underlying t with
 |some (.map kt' el)=>Nat.beq kt' kt&&(match P.info? el with|some i=>V8 b i.zero|none=>false)&&(match ti kt with|some I=>tO I.cH&&V7 P kt I|none=>false)
 |_=>false
def zM:List (Nat×(Nat×Bool))→Nat→Option (Nat×Bool)
 |[],_=>none
 |(k,s)::r,t=>bif Nat.beq k t then some s else zM r t
theorem OX {l:List (Nat×(Nat×Bool))} {t:Nat} {I:Nat×Bool} (h:zM l t=some I):(t,I)∈l:=by
 induction l with
 |nil=>simp [zM] at h
 |cons p l ih=>
  obtain ⟨k,s⟩:=p
  simp only [zM,dD] at h
  by_cases hk:k=t
  ·subst hk;simp at h;subst h;simp
  ·simp only [hk,decide_false,cond_false] at h
   exact List.mem_cons_of_mem _ (ih h)
def UC (P:Program) (ti:Nat→Option TI) (l:List (Nat×(Nat×Bool))):Bool:=l.all fun p=>aa5 P ti p.1 p.2.1 p.2.2
theorem xb {k:Kd} {ks:List MV} (h:cZ [k] ks=true): ∃m,ks=[m]∧A2 k m=true:=by
 cases ks with
 |nil=>simp [cZ] at h
 |cons m r=>
  cases r with
  |cons=>simp [cZ] at h
  |nil=>exact ⟨m,rfl,by simpa [cZ] using h⟩
theorem jg {P:Program} {t:TypeId} {d:TypeDesc} (hu:P.underlying t=some d) (hd:Bd d=true) (em:Bool) (n:Nat) (v:Value) (w:World):(Instr.checkKey em (n+1) t v).run P w= .ok () w:=by
 rw [Instr.checkKey]
 simp only [Sem.run_bind,run_underlying hu,Result.andThen]
 cases d<;>simp [Bd] at hd<;>cases v<;>rfl
theorem DY {P:Program} {t:TypeId} {d:TypeDesc} (hu:P.underlying t=some d) (hd:Bd d=true) {xs:Array Value} {off:Nat} (h:off<xs.size) (w:World):(Go.part t xs off).run P w= .ok xs[off] w:=by
 cases d<;>simp [Bd] at hd<;>simp [Go.part,isAgg,run_underlying hu,h]
theorem DZ {P:Program} {c:Ctx} {l:List (Nat×(Nat×Bool))} (h:UC P c.ti l=true) (hm: ∀t p,c.mt t=some p→zM l t=some p):tL P c:=by
 intro t s hs
 unfold r4 at hs
 cases IW:c.mt t with
 |none=>simp [IW] at hs
 |some p=>
  obtain ⟨kt,b⟩:=p
  simp only [IW] at hs
  cases hI:c.tv kt with
  |none=>simp [hI] at hs
  |some I=>
   simp only [hI] at hs
   cases hit:zl ⟨I.st,I.lay,b⟩ with
   |true=>simp [hit] at hs
   |false=>
   simp only [hit,cond_false,Option.some.injEq] at hs
   subst hs
   obtain ⟨Lo,KU⟩:=bK hI
   have hb:=List.all_eq_true.1 h _ (OX (hm t _ IW))
   simp only [aa5] at hb
   split at hb
   ·rename_i kt' el hu
    simp only [Bool.and_eq_true] at hb
    obtain ⟨⟨sP,sH⟩,W8⟩:=hb
    have sP:=Nat.eq_of_beq_eq_true sP
    subst sP
    split at sH
    ·rename_i inf aft
     rw [Lo] at W8
     simp only [Bool.and_eq_true] at W8
     have hk:=W8.2
     have hz: ∀w:World,(zeroValue el).run P w= .ok (xw b (ik b)) w:=by
      intro w
      have:inf.zero=some (xw b (ik b)):=by
       generalize inf.zero=z at sH
       unfold V8 at sH
       split at sH
       ·subst sH;rfl
       ·simp only [Bool.and_eq_true,Bool.not_eq_true'] at sH
        obtain ⟨h1,h2⟩:=sH
        subst h1
        rw [of_decide_eq_true h2];rfl
       ·cases sH
      simp [zeroValue,typeInfo,aft,this]
     unfold V7 at hk
     refine ⟨kt',el,hu,hz,?_⟩
     split at hk
     ·rename_i hd
      simp only [Bool.and_eq_true,Bool.not_eq_true'] at hk
      have hl:=dS hk.2
      refine ⟨fun em ks w hf=>jg hd rfl em 9999 _ w,_,hd,.inl fun a b' ha Ct=> ?_⟩
      rw [hl] at ha Ct
      obtain ⟨x,rfl,hx⟩:=xb ha
      obtain ⟨y,rfl,hy⟩:=xb Ct
      cases x<;>simp [A2] at hx
      cases y<;>simp [A2] at hy
      rename_i p q
      simp only [hk.1,eO,Instr.sameNow,dK,AW,Bool.and_true]
      congr 1;rw [Bool.eq_iff_iff];simp only [beq_iff_eq,decide_eq_true_eq];exact eq_comm
     ·rename_i k hd
      simp only [Bool.and_eq_true,Bool.not_eq_true'] at hk
      have hl:=dS hk.2
      refine ⟨fun em ks w hf=>jg hd rfl em 9999 _ w,_,hd,.inl fun a b' ha Ct=> ?_⟩
      rw [hl] at ha Ct
      obtain ⟨x,rfl,hx⟩:=xb ha
      obtain ⟨y,rfl,hy⟩:=xb Ct
      cases x<;>simp [A2] at hx
      cases y<;>simp [A2] at hy
      subst hx;subst hy
      rename_i p q
      simp only [hk.1,eO,Instr.sameNow,dK,AW,Bool.and_true,if_true,decide_true,Bool.true_and]
      congr 1;rw [Bool.eq_iff_iff];simp only [beq_iff_eq,decide_eq_true_eq];exact eq_comm
     ·rename_i hd
      simp only [Bool.and_eq_true,Bool.not_eq_true'] at hk
      have hl:=dS hk.2
      refine ⟨fun em ks w hf=>jg hd rfl em 9999 _ w,_,hd,.inl fun a b' ha Ct=> ?_⟩
      rw [hl] at ha Ct
      obtain ⟨x,rfl,hx⟩:=xb ha
      obtain ⟨y,rfl,hy⟩:=xb Ct
      cases x<;>simp [A2] at hx
      cases y<;>simp [A2] at hy
      rename_i p q
      simp only [hk.1,eO,Instr.sameNow,dK,AW,Bool.and_true]
      congr 1;rw [beq_toListBytes,ByteArray.toList_eq,ByteArray.toList_eq,Bool.eq_iff_iff];simp only [beq_iff_eq,decide_eq_true_eq,List.toList_toArray];exact eq_comm
     ·rename_i fs hd
      simp only [Bool.and_eq_true] at hk
      obtain ⟨⟨iw,V1⟩,Rk⟩:=hk
      split at V1
      ·rename_i ks K0
       have V1:=Nt V1
       subst V1
       have hkv: ∀q,eO true q= .agg (q.flatMap AS).toArray:=by intro q;rfl
       refine ⟨fun em q w hf=> ?_,_,hd,.inr fun x y hx hy=>⟨?_,fun w=> ?_⟩⟩
       ·have hlen:(q.flatMap AS).length=(Uz I.lay).length:=(H7 hf).length
        rw [iw,hkv,show (10000:Nat)=9999+1 from rfl,Instr.checkKey]
        simp only [Sem.run_bind,run_underlying hd,Result.andThen_ok]
        rw [←Array.forIn_toList]
        have each: ∀f∈fs.toList,(∃d,P.underlying f.type=some d∧Bd d=true)∧f.offset<(q.flatMap AS).toArray.size:=by
         intro f hf
         have:=List.all_eq_true.1 Rk f hf
         simp only [Bool.and_eq_true] at this
         obtain ⟨h1,h2⟩:=this
         split at h1
         ·rename_i d hd;exact ⟨⟨d,hd,h1⟩,by have:=Nat.le_of_ble_eq_true h2;simp only [List.size_toArray];omega⟩
         ·cases h1
        clear Rk
        generalize fs.toList=L at each
        generalize (q.flatMap AS).toArray=xs at each
        induction L with
        |nil=>simp
        |cons f L ih=>
         obtain ⟨⟨d,h1,h2⟩,h3⟩:=each f (by simp)
         have sP:=jg h1 h2 em 9998 xs[f.offset] w
         have sH:=DY (P:=P) h1 h2 h3 w
         by_cases hn:f.name= "_"
         ·simp only [List.forIn_cons,Sem.run_bind,hn,ne_eq,not_true_eq_false,if_false,Result.andThen_ok,Sem.run_pure]
          exact ih (fun y hy=>each y (by simp [hy]))
         ·simp only [List.forIn_cons,Sem.run_bind,hn,ne_eq,not_false_eq_true,if_true,Result.andThen_ok,sP,sH,Sem.run_pure]
          exact ih (fun y hy=>each y (by simp [hy]))
       ·rw [iw,hkv,hkv];rfl
       ·rw [iw,hkv,hkv]
        have:=B2 (P:=P) (w:=w) 20 kt' _ K0 9980 (.agg (x.flatMap AS).toArray) (.agg (y.flatMap AS).toArray) (x.flatMap AS) (y.flatMap AS) (by simp [q9,hd]) (by simp [q9,hd]) (H7 hx) (H7 hy)
        rw [UB hx hy] at this
        exact this
      ·cases V1
     ·cases hk
    ·cases sH
   ·cases hb
end Dn
/-
  Functions that are handed a variable do what their abstract run says. Conditions: none.
-/
set_option linter.unusedSimpArgs false
set_option linter.unusedVariables false
namespace Dn
open Go
section
variable {P:Program} {c:Ctx} {Z:bB} {e e':Env} {st bL:St} {a a':Act} {w w':World} {R:Type} {r:R}
theorem OY {rs:List ResultVar} (hT:jI P c.ti): ∀{e:Env} {st:St} {K:List MV→St→Option R},bP c Z e st a w→Ob c st rs K=some r→
 ∃e' bL ms vs,bP c Z e' bL a w∧Ext Z.In e e'∧(rs.mapM (jL a.tmps)).run P w= .ok vs w∧ct e'.key e'.φ vs ms∧K ms bL=some r:=by
 induction rs with
 |nil=>intro e st K h hK;exact ⟨e,st,[],[],h,.refl _ _,by simp,rfl,hK⟩
 |cons x rs ih=>
  intro e st K h hK
  have go: ∀(s:Slot) (v:Value),ae e v s→(jL a.tmps x).run P w= .ok v w→(lr st s fun m st=>Ob c st rs fun ms st=>K (m::ms) st)=some r→
   ∃e' bL ms vs,bP c Z e' bL a w∧Ext Z.In e e'∧((x::rs).mapM (jL a.tmps)).run P w= .ok vs w∧ct e'.key e'.φ vs ms∧K ms bL=some r:=by
   intro s v hs bW hK
   obtain ⟨e1,ca,m,h1,h2,h3,h4,hK⟩:=mn h hs hK
   obtain ⟨e2,cS,ms,vs,q1,q2,q3,q4,hK⟩:=ih h1 hK
   refine ⟨e2,cS,m::ms,v::vs,q1,h2.trans q2,?_,⟨v,vs,rfl,?_,q4⟩,hK⟩
   ·simp [List.mapM_cons,bW,q3]
   ·have:=h4.mono q2.on.φ
    rw [←q2.on.key] at this;exact this
  simp only [Ob] at hK
  cases x with
  |tmp t=>
   simp only at hK
   have hs:=h.slot t
   by_cases hb: ∃cs,ap st.fr t= .box cs
   ·obtain ⟨cs,hb⟩:=hb
    rw [hb] at hK
    simp [lr] at hK
   ·refine go (ap st.fr t) (a.tmps.getD t undef) ?_ rfl hK
    generalize ap st.fr t=s at hs hb
    cases s<;>first|exact hs|exact absurd ⟨_,rfl⟩ hb
  |cell b t=>
   simp only at hK
   have hs:=h.slot b
   split at hK
   ·rename_i I cs hI hb
    obtain ⟨Lo,KU⟩:=bK hI
    rw [hb] at hs
    obtain ⟨hv,zA⟩:=hs
    cases yC:fa cs||vm b with
    |true=>simp [yC] at hK
    |false=>
    obtain ⟨sG,hpb⟩:=Bool.or_eq_false_iff.1 yC
    simp only [yC,cond_false] at hK
    have hv:=hv.1 hpb
    rw [r5 sG] at hv
    obtain ⟨arr,T,dQ,pP⟩:=zA.cells sG
    have hm:w.rangeAt (e.B b) 0 arr.toList:=by
     intro j v hj
     rw [Nat.zero_add,cell_of dQ];simpa using hj
    obtain ⟨v,s,h1,h2,h3,h4⟩:=jd (P:=P) (st:=st) (s:= .skip) (hT t I Lo) KU pP hm hK
    refine go s v h2 ?_ h4
    simpa [jL,hv,asAddr,Instr.loadAt,Instr.sureAddr] using h1 w hm
   ·simp at hK
theorem D5 {key:Nat→Nat} {φ:Ph} {v:Value} {m:MV} (h:gV key φ v (.cell m)):False:=by
 have:=h.1
 simp [MV.one] at this
theorem aa7 (off pos:Nat):vm (1000000+off *1000+pos)=true:=Nat.ble_eq_true_of_le (by omega)
theorem RN {f pos:Nat} {ks:List LK} {fn:Func} {cG:List (List Kd)} {ms:List MV} {m:MV} (hG:Good P c) (hD:DR P c) (hf:P.funcs[f]? =some fn) (zK:(fn.name== "runtime.NumGoroutine")=false)
 (hn:c.n=fn.ntmps) (hnp:fn.ntmps≤1000000) (qk:fn.params.size+cG.length≤fn.ntmps) (hg:c.fK (c.key f)=true) (HX:c.sig (c.key f)=some (pos,ks)) (hb:zn c cG pos ks fn ms=some m):kn P c f ms m:=by
 intro φ w Z vs hz iT mD
 unfold zn at hb
 cases qF:fn.body with
 |none=>simp [qF] at hb
 |some b=>
 simp only [qF] at hb
 split at hb
 rotate_left
 ·simp at hb
 rename_i b' off ls Ct yC
 cases Ct
 cases sR:!il c ks||!Nat.ble pos 999 with
 |true=>simp [sR] at hb
 |false=>
 simp only [sR,cond_false] at hb
 simp only [Bool.or_eq_false_iff,Bool.not_eq_false'] at sR
 obtain ⟨iR,jx⟩:=sR
 have jx:=Nat.le_of_ble_eq_true jx
 simp only [gf,hg,if_true] at iT
 have hC:VS c Z φ w (c.key f) vs ms:=by
  rcases iT with ⟨v0,v1,v2,xs,m1,ys,_,rfl,_,h4,_⟩|⟨v0,v1,v2,xs,m1,m2,_,rfl,_,_,h4,h5⟩|h
  ·exfalso
   rcases pos with _|_|_|pos<;>simp at yC
   subst yC
   exact D5 h4
  ·exfalso
   rcases pos with _|_|_|pos<;>simp at yC
   ·subst yC;exact D5 h4
   ·subst yC;exact D5 h5
  ·exact h
 obtain ⟨pos',GB,Qh,uN,bj,zg,Ze,Xw,RO,xM⟩:=hC
 rw [HX] at zg
 simp only [Option.some.injEq,Prod.mk.injEq] at zg
 obtain ⟨rfl,rfl⟩:=zg
 rw [yC] at Xw
 simp only [Option.some.injEq,MV.cell.injEq,MV.func.injEq] at Xw
 obtain ⟨rfl,rfl⟩:=Xw
 obtain ⟨cs,mm,E,arr,T,DJ,dQ,hzb,uK,pP,km,eN⟩:=xM
 let e:Env:=⟨c.key,φ,E,fun _=>bj,mm⟩
 have bW:(callFunc f vs.toArray).run P w= .ok (.enter f vs.toArray) w:=by
  have HF: ¬fn.name= "runtime.NumGoroutine" :=by simpa using zK
  simp [callFunc,hf,HF,qF]
 unfold jf
 rw [bW]
 refine calls_of_wp hf qF ?_
 have RO:ct e.key e.φ vs (ms.set pos (.rp [])):=RO
 obtain ⟨fr,rest,jC,qE,hb,rfl,l1,a2,k1,s1⟩:=B0 RO hb
 obtain ⟨nR,hb,l2,k2,s2⟩:=GF a2 hb
 simp only [vw] at hb
 obtain ⟨ir,aa8,C5,g1,hb⟩:=ko hb
 cases aa8 with
 |cons=>simp [gN] at hb
 |nil=>
 simp only [gN] at hb
 have gu:cs=ir∧mm=C5.aV:=by
  unfold QW at DJ
  rw [g1] at DJ
  simp only [gN,Option.some.injEq,Prod.mk.injEq] at DJ
  exact ⟨DJ.1.symm,DJ.2.symm⟩
 obtain ⟨rfl,VK⟩:=gu
 rw [←VK] at hb
 have htn:(jC++qE).toArray.size=fn.params.size+cG.length:=by simp [l1,l2]
 let a:Act:={tmps:=(jC++qE).toArray++Array.replicate (fn.ntmps-(jC++qE).toArray.size) undef,defers:=[]}
 have IR: ∀(t:Nat) (v:Value),(jC++qE)[t]? =some v→a.tmps.getD t undef=v:=by
  intro t v ht
  have du:t<(jC++qE).length:=(List.getElem?_eq_some_iff.1 ht).1
  rw [Array.getD_eq_getD_getElem?]
  show (((jC++qE).toArray++Array.replicate _ undef)[t]?).getD undef=v
  rw [Array.getElem?_append_left (by simpa using du)]
  simp only [List.getElem?_toArray]
  rw [ht];rfl
 have DS: ∀t,cY (ap (fr++nR) t)=false∧(∀cs,ap (fr++nR) t≠ .box cs)∧ae e (a.tmps.getD t undef) (ap (fr++nR) t):=by
  intro t
  rw [vz]
  by_cases h1:t∈aM fr
  ·simp only [h1,if_true]
   obtain ⟨g1,g2,v,g3,g4⟩:=s1 _ (zJ h1)
   refine ⟨g1,?_,?_⟩
   ·intro cs hc;simp only [hc,cB] at g2;cases g2
   ·rw [IR t v ?_];exact g4
    have du:t<jC.length:=(List.getElem?_eq_some_iff.1 g3).1
    rw [List.getElem?_append_left du];exact g3
  ·simp only [h1,if_false]
   by_cases h2:t∈aM nR
   ·obtain ⟨g1,g2,v,g3,g4⟩:=s2 _ (zJ h2)
    refine ⟨g1,g2,?_⟩
    rw [IR t v ?_];exact g4
    have hk:=h2
    rw [k2,List.mem_range'] at hk
    obtain ⟨i,hi,he⟩:=hk
    have xP:fn.params.size=jC.length:=by rw [l1];simp
    rw [List.getElem?_append_right (by omega),←xP];exact g3
   ·rw [qj _ _ h2]
    exact ⟨rfl,fun cs hc=>(by cases hc),by simp [ae]⟩
 obtain ⟨q,hq⟩: ∃q,q=1000000+off *1000+pos:=⟨_,rfl⟩
 have LP:vm q=true:=by rw [hq];exact aa7 off pos
 have hpo:posOf q=pos:=by rw [hq];unfold posOf;omega
 have hof:I3 q=off:=by rw [hq];unfold I3;omega
 rw [←hq] at hb
 let Zc:bB:={bB.plain Z with b9:=[pos],T:=fun _=> .pointer (some ⟨bj,off,none⟩)}
 have aa9:a.tmps.getD pos undef= .pointer (some ⟨bj,off,none⟩):=IR pos _ Ze
 have PS: ∀t,ap ((q,Slot.box cs)::(fr++nR)) t=if t=q then .box cs else ap (fr++nR) t:=by
  intro t
  simp only [ap,dD]
  by_cases OZ:t=q
  ·subst OZ;simp
  ·have: ¬q=t:=fun h=>OZ h.symm
   simp [OZ,this]
 have aba:aM (fr++nR)=List.range' 0 (fn.params.toList.length+cG.length):=by
  have:aM (fr++nR)=aM fr++aM nR:=by simp [aM]
  rw [this,k1,k2]
  have:=List.range'_append_1 (s:=0) (m:=fn.params.toList.length) (n:=cG.length)
  simpa using this
 have V9: ∀t ds,ap ((q,Slot.box cs)::(fr++nR)) t= .box ds→t=q:=by
  intro t ds ht
  rw [PS] at ht
  by_cases OZ:t=q
  ·exact OZ
  ·rw [if_neg OZ] at ht;exact absurd ht ((DS t).2.1 ds)
 have pT:bP c Zc e ⟨[pos],[],(q,.box cs)::(fr++nR),mm⟩ a w:=by
  refine ⟨⟨rfl,rfl,rfl,fun t ht=> ?_⟩,?_,rfl,rfl,?_,?_,?_,fun f o ho=> ?_,fun t t' cs ir h1 h2 dt=> ?_,fun t ds f o h1 ho=> ?_,fun f f' o o' k h1 h2 h3 h4=>eN f f' o o' k h1 h2 h3 h4,mD,hz⟩
  ·have:t=pos:=by simpa [Zc] using ht
   rw [this];exact aa9
  ·show ((jC++qE).toArray++Array.replicate (fn.ntmps-(jC++qE).toArray.size) undef).size=c.n
   rw [Array.size_append,Array.size_replicate,htn,hn];omega
  ·show (aM ((q,Slot.box cs)::(fr++nR))).Nodup
   show (q::aM (fr++nR)).Nodup
   rw [aba]
   refine List.nodup_cons.2 ⟨fun hm=> ?_,List.nodup_range'⟩
   rw [List.mem_range'] at hm
   obtain ⟨i,hi,he⟩:=hm
   have:fn.params.toList.length=fn.params.size:=by simp
   omega
  ·intro t
   show bX Zc e w t _ (ap ((q,Slot.box cs)::(fr++nR)) t)
   rw [PS]
   by_cases OZ:t=q
   ·rw [if_pos OZ,OZ]
    exact ⟨⟨fun hp=>(by rw [LP] at hp;cases hp),fun _=>⟨by rw [hpo];simp [Zc],by rw [hof]⟩⟩,⟨.inr hzb,⟨_,dQ,rfl,pP⟩,uK⟩⟩
   ·rw [if_neg OZ]
    obtain ⟨g1,g2,g3⟩:=DS t
    generalize ap (fr++nR) t=s at g1 g2 g3
    cases s<;>first|exact g3|exact absurd rfl (g2 _)
  ·intro t
   show cg _ (ap ((q,Slot.box cs)::(fr++nR)) t)
   rw [PS]
   by_cases OZ:t=q
   ·rw [if_pos OZ];trivial
   ·rw [if_neg OZ];exact sS (DS t).1
  ·obtain ⟨I,cells,q1,q2,q3,q4,q5⟩:=(km f o ho).1.row
   exact ⟨I,cells,q1,q2,q3,q4,fun b hb=>⟨.inr (q5 b hb).1,(q5 b hb).2.1,fun hc=>by simp [Zc,bB.fz,bB.plain] at hc⟩⟩
  ·exact absurd ((V9 t _ h1).trans (V9 t' _ h2).symm) dt
  ·exact (km f o ho).2
 refine rI hG hD b pT hb ?_
 intro n e' bL a' w' h' t' hK
 cases hle:Nat.ble n 1 with
 |false=>simp [hle] at hK
 |true=>
  simp only [hle,cond_true] at hK
  obtain ⟨e2,cS,ns,us,q1,q2,q3,q4,hK⟩:=OY (P:=P) hG.ti h' hK
  split at hK
  rotate_left
  ·simp at hK
  rename_i nF zh
  cases M4:fa nF with
  |true=>simp [M4] at hK
  |false=>
  simp only [M4,cond_false] at hK
  obtain ⟨outs,ps,ht,hK⟩:=DF hK
  simp only [Option.some.injEq] at hK
  have uY:(results fn a'.tmps).run P w'= .ok (if h:us.toArray.size=1 then us.toArray[0] else .tuple us.toArray) w':=by
   have hm:(fn.results.mapM (jL a'.tmps)).run P w'= .ok us.toArray w':=by
    rw [Array.mapM_eq_mapM_toList]
    simp [q3]
   have M4:results fn a'.tmps=(do let vs←fn.results.mapM (jL a'.tmps);pure (if h:vs.size=1 then vs[0] else .tuple vs)):=by
    unfold results
    congr 1
   rw [M4]
   simp [hm]
  have abb:=q1.slot q
  rw [zh] at abb
  obtain ⟨_,hT⟩:=abb.1.2 LP
  have hB:e2.B q=bj:=by
   have hT:Value.pointer (some ⟨bj,off,none⟩)= .pointer (some ⟨e2.B q,I3 q,none⟩):=hT
   simp only [Value.pointer.injEq,Option.some.injEq,Addr.mk.injEq] at hT
   exact hT.1.symm
  have abc:bp cS.b9 q=false:=by
   rw [q1.defers.2.1]
   cases hh:bp Zc.b9 q with
   |false=>rfl
   |true=>
    have:=(bH _ _).1 hh
    have:q=pos:=by simpa [Zc] using this
    omega
  have hco:=(Jz q1 zh M4 iR ht).wide (HU q1 zh abc ht)
  have IU:e2.key=c.key:=q1.key
  have JJ: ∃φ',Trans Z φ w φ' w'∧zC φ' w'∧rC c Z φ' w' (c.key f) (jC++qE) (if h:us.toArray.size=1 then us.toArray[0] else .tuple us.toArray) m:=by
   refine ⟨e2.φ,t'.trans q2.tr,q1.nE,?_⟩
   rw [IU] at q4
   subst hK
   refine ⟨?_,pos,ks,bj,off,HX,Ze,by rw [←hB];exact hco⟩
   by_cases OA: ∃m',ns=[m']
   ·obtain ⟨m',rfl⟩:=OA
    obtain ⟨v,u,rfl,g1,g2⟩:=q4
    have g2:u=[]:=g2
    subst g2
    simp only [List.size_toArray,List.length_singleton,dite_true]
    cases m'<;>first|exact g1|exact absurd g1.1 (by simp [MV.one])
   ·have hm:ZP ns= .dr ns:=by
     cases ns with
     |nil=>rfl
     |cons x l=>
      cases l with
      |nil=>exact absurd ⟨x,rfl⟩ OA
      |cons=>rfl
    have dt:us.toArray.size≠1:=by
     intro h1
     have:=q4.length
     rw [List.size_toArray] at h1
     rw [h1] at this
     obtain ⟨m1,h2⟩:=List.length_eq_one_iff.1 this.symm
     exact OA ⟨m1,h2⟩
    rw [hm,dif_neg dt]
    exact ⟨us.toArray,rfl,by simpa using q4⟩
  match n,hle with
  |0,_=>exact ⟨h'.defers.1,_,uY,_,rfl,JJ⟩
  |1,_=>exact ⟨h'.defers.1,_,uY,_,rfl,JJ⟩
  |n+2,hle=>simp [Nat.ble] at hle
end
end Dn
/-
  Operations whose order is open. Conditions: none.
-/
set_option linter.unusedSimpArgs false
set_option linter.unusedVariables false
namespace Dn
open Go
section
variable {P:Program} {c:Ctx} {ops:Array Oper} {N:Act→World→Prop}
def ra (N:Act→World→Prop):Exit→Act→World→Prop
 | .normal,a,w=>N a w
 |_,_,_=>False
def tP (c:Ctx) (oi:Oper) (ops:Array Oper) (i:Nat):Bool:=match ops[i]? with|some o=>Qk c o||xI oi o|none=>true
def FN (P:Program) (c:Ctx) (ops:Array Oper) (N:Act→World→Prop) (φ:Ph):Nat→Array Bool→Act→World→Prop
 |0,listed,a,w=>Region.ready .any ops listed=[]∧N a w
 |fuel+1,listed,a,w=>(Region.ready .any ops listed=[]→N a w)∧
  ∀i∈Region.ready .any ops listed,wpOp P ops (ra N) i (fun a' w'=>((∀oi,tP c oi ops i=true→eX c oi w w')∧zC φ w')∧FN P c ops N φ fuel (listed.setIfInBounds i true) a' w') a w
theorem O0 {φ φ':Ph} (hp:pL φ φ'): ∀(fuel:Nat) (listed:Array Bool) (a:Act) (w:World),FN P c ops N φ' fuel listed a w→FN P c ops N φ fuel listed a w:=by
 intro fuel
 induction fuel with
 |zero=>intro listed a w h;exact h
 |succ fuel ih=>intro listed a w h;exact ⟨h.1,fun i hi=>wpOp_mono (fun a w h=>⟨⟨h.1.1,fun b o v hv=>h.1.2 b o v (hp b o v hv)⟩,ih _ _ _ h.2⟩) (h.2 i hi)⟩
theorem RP {φ:Ph}: ∀(fuel:Nat) (listed:Array Bool) (a:Act) (w:World),FN P c ops N φ fuel listed a w→wpAny P .any ops (ra N) fuel listed a w:=by
 intro fuel
 induction fuel with
 |zero=>intro listed a w h;exact h
 |succ fuel ih=>intro listed a w h;exact ⟨h.1,fun i hi=>wpOp_mono (fun a w h=>ih _ _ _ h.2) (h.2 i hi)⟩
theorem LW {oi oj p:Oper} {w w':World} (h1:xI oi p=true) (h2:xI oj p=true) (h:eX c oi w w'):eX c oj w w':=by
 unfold xI at h1 h2
 split at h1
 ·rename_i t t' g1 g2
  split at h2
  ·rename_i u u' g3 g4
   rw [g2] at g4
   cases g4
   have e1:=Nat.eq_of_beq_eq_true h1
   have e2:=Nat.eq_of_beq_eq_true h2
   subst e1;subst e2
   simpa [eX,OE,g1,g3] using h
  ·cases h2
 ·cases h1
theorem Xx {j:Nat} {oi oj:Oper} {v:Value} (hj:ops[j]? =some oj) (tJ:oi.apart ops oj=true)
 (hsi: ∀cs b,oi.op≠ .select cs b) (Zj: ∀cs b,oj.op≠ .select cs b) {K:Act→World→Prop} {a:Act} {w:World} (h:wpOp P ops (ra N) j K (a.put oi.dst v) w):
 wpOp P ops (ra N) j (fun a' w'=>(execOp a'.eval oi=execOp a.eval oi∧Region.wanted oi (yielded ops a'.tmps)=Region.wanted oi (yielded ops a.tmps))∧K (a'.put oi.dst v) w') a w:=by
 obtain ⟨h1,h2,h3⟩:=Oper.apart_spec tJ
 have keep: ∀(a:Act) (u:Value),execOp (a.put oj.dst u).eval oi=execOp a.eval oi∧Region.wanted oi (yielded ops (a.put oj.dst u).tmps)=Region.wanted oi (yielded ops a.tmps):=
  fun a u=>⟨execOp_put oi hsi a oj.dst u h3,wanted_put oi a oj.dst u h3⟩
 unfold wpOp at *
 simp only [hj] at *
 rw [wanted_put oj a oi.dst v h1] at h
 split
 ·rename_i hw
  simp only [hw,if_true] at h
  rcases h with h|⟨abd,RQ⟩
  case inr=>obtain ⟨_,_,hf⟩:=RQ;exact hf.elim
  refine .inl ?_
  unfold Oper.wp at *
  rw [execOp_put oj Zj a oi.dst v h1] at h
  generalize (execOp a.eval oj).run P w=r at *
  cases r with
  |ok n w'=>
   cases n<;>simp only [Oper.upon] at h⊢
   case value u=>exact ⟨keep a u,by rw [←Act.put_comm a v u h2];exact h⟩
   case skip=>exact ⟨keep a _,by rw [←Act.put_comm a v undef h2];exact h⟩
   case defer d=>
    refine ⟨keep _ _,?_⟩
    rw [←Act.put_comm _ v undef h2,←Act.put_defers]
    exact h
   case enter f args=>
    refine Calls.mono h fun x wS he=> ?_
    cases x with
    |returned u=>exact ⟨keep a u,by rw [←Act.put_comm a v u h2];exact he⟩
    |panicked c=>exact he
    |outgrown=>exact he
   case row row args=>exact Rows.mono h fun u wS he=>⟨keep a u,by rw [←Act.put_comm a v u h2];exact he⟩
  |halt x w'=>
   cases x<;>simp only [Oper.upon] at h⊢
   case panic u=>exact h
 ·rename_i hw
  simp only [hw] at h
  exact ⟨keep a _,by rw [←Act.put_comm a v undef h2];exact h⟩
def Nu (P:Program) (c:Ctx) (ops:Array Oper) (φ:Ph) (o:Oper) (v:Value) (a:Act) (w:World):Prop:=
 (Region.wanted o (yielded ops a.tmps)=true∧ ∀w',(kj c o=true→(still c o=false→eX c o w w')∧zC φ w')→(execOp a.eval o).run P w'= .ok (.value v) w')∨
 (Region.wanted o (yielded ops a.tmps)=false∧v=undef)
theorem D6 {φ:Ph} {i:Nat} {oi:Oper} {v:Value} {D:List Nat} (hD: ∀j oj,j∈D→j≠i→ops[j]? =some oj→ ∃e∈oj.after,Region.binds .any e=true∧e.on∈D) (hi:ops[i]? =some oi) (JO: ∀(j:Nat) (o:Oper) cs b,ops[j]? =some o→o.op≠ .select cs b):
 ∀(fuel:Nat) (listed:Array Bool) (a:Act) (w:World),
  (∀j oj,ops[j]? =some oj→j∉D→j≠i→listed.getD j true=false→oi.apart ops oj=true∧(kj c oi=true→still c oi=false→tP c oi ops j=true))→(∀d∈D,listed.getD d false=false)→
  i∈Region.ready .any ops listed→Nu P c ops φ oi v a w→zC φ w→
  FN P c ops N φ fuel (listed.setIfInBounds i true) (a.put oi.dst v) w→FN P c ops N φ (fuel+1) listed a w:=by
 have self: ∀(fuel:Nat) (listed:Array Bool) (a:Act) (w:World),Nu P c ops φ oi v a w→zC φ w→FN P c ops N φ fuel (listed.setIfInBounds i true) (a.put oi.dst v) w→
  wpOp P ops (ra N) i (fun a' w'=>((∀oi,tP c oi ops i=true→eX c oi w w')∧zC φ w')∧FN P c ops N φ fuel (listed.setIfInBounds i true) a' w') a w:=by
  intro fuel listed a w hy hm H
  unfold wpOp
  simp only [hi]
  rcases hy with ⟨hw,hv⟩|⟨hw,rfl⟩
  ·simp only [hw,if_true,Oper.wp,hv w (fun _=>⟨fun _=>(dC.refl w).for,hm⟩),Oper.upon]
   exact .inl ⟨⟨fun _ _=>(dC.refl w).for,hm⟩,H⟩
  ·simp only [hw,Bool.false_eq_true,if_false]
   exact ⟨⟨fun _ _=>(dC.refl w).for,hm⟩,H⟩
 intro fuel
 induction fuel with
 |zero=>
  intro listed a w _ _ hr hy hm H
  refine ⟨fun h=>(by rw [h] at hr;cases hr),fun j hj=> ?_⟩
  by_cases RR:j=i
  ·subst RR;exact self 0 listed a w hy hm H
  ·have:=ready_mono hj RR
   rw [H.1] at this
   cases this
 |succ fuel ih=>
  intro listed a w uK RS hr hy hm H
  refine ⟨fun h=>(by rw [h] at hr;cases hr),fun j hj=> ?_⟩
  by_cases RR:j=i
  ·subst RR;exact self (fuel+1) listed a w hy hm H
  ·have h1:=H.2 j (ready_mono hj RR)
   obtain ⟨UD,oj,Wa,oR⟩:=mem_ready.1 hj
   have hjD:j∉D:=by
    intro hjd
    obtain ⟨e,he,hb,tq⟩:=hD j oj hjd RR Wa
    have h1:=oR e he hb
    rw [RS e.on tq] at h1;cases h1
   obtain ⟨tJ,K1⟩:=uK j oj Wa hjD RR UD
   have h2:=Xx Wa tJ (fun cs b=>JO i oi cs b hi) (fun cs b=>JO j oj cs b Wa) h1
   have abe: ∀d∈D,(listed.setIfInBounds j true).getD d false=false:=by
    intro d hd
    rw [getD_set_ne false (fun he=>hjD (by rw [he];exact hd))];exact RS d hd
   have Xy: ∀k ok,ops[k]? =some ok→k∉D→k≠i→(listed.setIfInBounds j true).getD k true=false→oi.apart ops ok=true∧(kj c oi=true→still c oi=false→tP c oi ops k=true):=fun k ok hk hkD hki Xn=>by
    refine uK k ok hk hkD hki ?_
    by_cases Zk:j=k
    ·subst Zk;exact UD
    ·rw [getD_set_ne true Zk] at Xn;exact Xn
   refine wpOp_mono (fun a' w' h3=>⟨h3.2.1,ih (listed.setIfInBounds j true) a' w' Xy abe (ready_mono hr (Ne.symm RR)) ?_ h3.2.1.2 ?_⟩) h2
   ·obtain ⟨⟨he,Xz⟩,⟨hg,_⟩,_⟩:=h3
    rcases hy with ⟨hw,hv⟩|⟨hw,rfl⟩
    ·refine .inl ⟨by rw [Xz];exact hw,fun wS Tw=> ?_⟩
     rw [he]
     exact hv wS (fun hl=>⟨fun hs=>(hg oi (K1 hl hs)).trans ((Tw hl).1 hs),(Tw hl).2⟩)
    ·exact .inr ⟨by rw [Xz];exact hw,rfl⟩
   ·rw [Array.setIfInBounds_comm _ _ RR]
    exact h3.2.2
variable {Z:bB} {R:Type} {K:St→Option R} {r:R}
theorem O1 (op:Op):Le op=op.operands.toList:=by
 cases op<;>first|rfl|simp [Le,Op.operands,Call.operands]
 all_goals first|rfl|(rename_i c;cases c.callee<;>simp)
theorem RT (l:List Operand):Jd l=l.filterMap fun| .tmp t=>some t|_=>none:=by
 induction l with
 |nil=>rfl
 |cons x l ih=>cases x<;>simp [Jd,ih]
theorem GM (o:Oper):Hy ops.toList o=o.looksAt ops:=by
 unfold Hy Oper.looksAt
 rw [O1,RT]
 congr 1
 cases o.guard with
 |none=>rfl
 |some g=>
  obtain ⟨g,wnt⟩:=g
  simp only [Array.getElem?_toList]
  cases ops[g]? <;>rfl
theorem xc {x y:Oper} (h:Hz ops.toList x y=true):x.apart ops y=true:=by
 unfold Hz at h
 unfold Oper.apart
 rw [GM,GM] at h
 have hn: ∀(l:List Nat) (d:Nat),bp l d=l.contains d:=by
  intro l d
  have:=bH l d
  cases h1:bp l d<;>cases h2:l.contains d<;>simp_all
 cases hx:x.dst<;>cases hy:y.dst<;>simp_all [bne,dD]
theorem sW (e:Edge):AZ e=Region.binds .any e:=by
 unfold AZ Region.binds
 cases e.ground<;>rfl
structure RU (ops:Array Oper) (listed:Array Bool) (pre:List Nat):Prop where
 size:listed.size=ops.size
 mem: ∀i,i<ops.size→(listed.getD i true=true↔i∈pre)
theorem RU.set {listed:Array Bool} {pre:List Nat} {x:Nat} (h:RU ops listed pre) (hx:x<ops.size):RU ops (listed.setIfInBounds x true) (x::pre):=by
 refine ⟨by simpa using h.size,fun i hi=> ?_⟩
 by_cases UE:x=i
 ·subst UE
  have:x<listed.size:=by rw [h.size];exact hx
  simp [this]
 ·rw [getD_set_ne true UE,h.mem i hi]
  simp only [List.mem_cons]
  exact ⟨.inr,fun hh=>hh.resolve_left (fun he=>UE he.symm)⟩
theorem RU.zN {listed:Array Bool} {pre:List Nat} {i:Nat} (h:RU ops listed pre) (hi:i<ops.size):listed.getD i true=false↔i∉pre:=by
 rw [←h.mem i hi];cases listed.getD i true<;>simp
theorem RU.done {listed:Array Bool} {pre:List Nat} {i:Nat} (h:RU ops listed pre) (hi:i<ops.size):listed.getD i false=true↔i∈pre:=by
 rw [←h.mem i hi]
 have hl:i<listed.size:=by rw [h.size];exact hi
 simp [hl]
theorem vI: ∀(rest pre:List Nat),sK c ops.toList pre rest=true→ ∀z∈rest,z∉pre:=by
 intro rest
 induction rest with
 |nil=>intro pre _ z hz;cases hz
 |cons y rest ihr=>
  intro pre hd z hz
  simp only [sK] at hd
  cases hy:ops.toList[y]? with
  |none=>simp [hy] at hd
  |some oy=>
   simp only [hy,Bool.and_eq_true,Bool.not_eq_true'] at hd
   rcases List.mem_cons.1 hz with rfl|hz
   ·rw [←bH,hd.1.1.1.2];simp
   ·exact fun hzp=>ihr (y::pre) hd.2 z hz (by simp [hzp])
theorem FO {o:Oper} {x:Nat}: ∀(rest D0:List Nat),qz c ops.toList o D0 rest=true→(∀y,y∈D0→y≠x→ ∃p,ops[y]? =some p∧ ∃e∈p.after,Region.binds .any e=true∧e.on∈D0)→
 ∃D:List Nat,(∀y∈D0,y∈D)∧(∀y∈D,y∈D0∨y∈rest)∧(∀j oj,j∈D→j≠x→ops[j]? =some oj→ ∃e∈oj.after,Region.binds .any e=true∧e.on∈D)∧
  (∀y∈rest,y∉D→ ∃p,ops[y]? =some p∧o.apart ops p=true∧(kj c o=true→still c o=false→(Qk c p||xI o p)=true)):=by
 intro rest
 induction rest with
 |nil=>
  intro D0 _ h0
  refine ⟨D0,fun y hy=>hy,fun y hy=> .inl hy,fun j oj hj dt ho=> ?_,fun y hy=>by cases hy⟩
  obtain ⟨p,hp,he⟩:=h0 j hj dt
  rw [ho] at hp;cases hp;exact he
 |cons y rest ih=>
  intro D0 h h0
  simp only [qz] at h
  cases hy:ops.toList[y]? with
  |none=>simp [hy] at h
  |some p=>
   simp only [hy] at h
   have hy':ops[y]? =some p:=by simpa using hy
   cases he:yp p (bp D0) with
   |true=>
    simp only [he,cond_true] at h
    obtain ⟨D,D1,D2,D3,D4⟩:=ih (y::D0) h (by
     intro z hz dt
     rcases List.mem_cons.1 hz with rfl|hz
     ·unfold yp at he
      obtain ⟨ed,UF,hb⟩:=List.any_eq_true.1 he
      simp only [Bool.and_eq_true,sW] at hb
      exact ⟨p,hy',ed,by simpa using UF,hb.1,by simp [(bH _ _).1 hb.2]⟩
     ·obtain ⟨q,hq,ed,h1,h2,h3⟩:=h0 z hz dt
      exact ⟨q,hq,ed,h1,h2,by simp [h3]⟩)
    refine ⟨D,fun z hz=>D1 z (by simp [hz]),fun z hz=> ?_,D3,fun z hz hzD=> ?_⟩
    ·rcases D2 z hz with h1|h1
     ·rcases List.mem_cons.1 h1 with h1|h1
      ·exact .inr (by simp [h1])
      ·exact .inl h1
     ·exact .inr (by simp [h1])
    ·rcases List.mem_cons.1 hz with rfl|hz
     ·exact absurd (D1 z (by simp)) hzD
     ·exact D4 z hz hzD
   |false=>
    simp only [he,cond_false,Bool.and_eq_true,Bool.or_eq_true,Bool.not_eq_true'] at h
    obtain ⟨⟨h1,h2⟩,h3⟩:=h
    obtain ⟨D,D1,D2,D3,D4⟩:=ih D0 h3 h0
    refine ⟨D,D1,fun z hz=>(D2 z hz).imp id (fun h=>by simp [h]),D3,fun z hz hzD=> ?_⟩
    rcases List.mem_cons.1 hz with rfl|hz
    ·refine ⟨p,hy',xc h1,fun hl hs=> ?_⟩
     rcases h2 with ((h2|h2)|h2)|h2
     ·rw [hl] at h2;cases h2
     ·simp [h2]
     ·rw [hs] at h2;cases h2
     ·simp [h2]
    ·exact D4 z hz hzD
def bB.outs (Z:bB) (bs:List Nat):bB:={Z with In:=fun b=>Z.In b∧b∉bs,Pr:=fun b=>Z.Pr b∧b∉bs}
theorem bP.Nv {Z Z':bB} {e:Env} {st:St} {a:Act} {w:World} (h:bP c Z e st a w) (hI: ∀b,Z.In b→Z'.In b) (hP: ∀b,Z.Pr b→Z'.Pr b) (h1:Z'.b9=Z.b9) (h2:Z'.cn=Z.cn) (h3:Z'.T=Z.T) (h4:Z'.ZR=Z.ZR):bP c Z' e st a w:=by
 refine ⟨by rw [h1,h2,h3];exact h.defers,h.size,h.m,h.key,h.nodup,fun t=> ?_,h.root,fun f o ho=> ?_,h.bb,h.bf,h.ff,h.nE,fun b hb=>hI b (h.cc b hb)⟩
 ·have hs:=h.slot t
  generalize ap st.fr t=s at hs
  cases s<;>simp only [bX] at hs⊢ <;>first|exact hs|skip
  exact ⟨⟨hs.1.1,fun hp=>by rw [h1,h3];exact hs.1.2 hp⟩,⟨by rcases hs.2.cc with ⟨x,y⟩|x;exact .inl ⟨by rw [h1];exact x,hP _ y⟩;exact .inr (hI _ x),hs.2.obj,hs.2.free⟩⟩
 ·obtain ⟨I,cells,g1,g2,g3,g4,g5⟩:=(h.gp f o ho).row
  refine ⟨I,cells,g1,g2,g3,g4,fun bj hb=> ?_⟩
  obtain ⟨k1,k2,k3⟩:=g5 bj hb
  refine ⟨?_,k2,fun hc hz j hj=>k3 (by have hc:f∈Z'.cn:=hc;rw [h2] at hc;exact hc) hz j hj⟩
  rcases k1 with ⟨x,y⟩|x
  ·exact .inl ⟨by rw [h2];exact x,hP _ y⟩
  ·exact .inr (hI _ x)
theorem bP.narrow {e:Env} {st:St} {a:Act} {w w':World} {bs:List Nat} (h:bP c (Z.outs bs) e st a w) (g:dC w w') (hs:w.heap.size<w'.heap.size):bP c (Z.outs (w.heap.size::bs)) e st a w':=by
 have h':=h.grow g
 have wU: ∀b,b<w.heap.size→(Z.outs bs).In b→(Z.outs (w.heap.size::bs)).In b:=fun b hb hi=>⟨hi.1,by simp only [List.mem_cons,not_or];exact ⟨by omega,hi.2⟩⟩
 have PQ: ∀b,b<w.heap.size→(Z.outs bs).Pr b→(Z.outs (w.heap.size::bs)).Pr b:=fun b hb hi=>⟨hi.1,by simp only [List.mem_cons,not_or];exact ⟨by omega,hi.2⟩⟩
 refine ⟨h'.defers,h'.size,h'.m,h'.key,h'.nodup,fun t=> ?_,h'.root,fun f o ho=> ?_,h'.bb,h'.bf,h'.ff,h'.nE,fun b hb=> ?_⟩
 ·have hs:=h.slot t
  have zg:=h'.slot t
  generalize ap st.fr t=s at hs zg
  cases s<;>simp only [bX] at hs zg⊢ <;>first|exact zg|skip
  obtain ⟨o2,k1,_⟩:=hs.2.obj
  have hl:=bo k1
  exact ⟨zg.1,⟨by rcases zg.2.cc with ⟨x,y⟩|x;exact .inl ⟨x,PQ _ hl y⟩;exact .inr (wU _ hl x),zg.2.obj,zg.2.free⟩⟩
 ·obtain ⟨I,cells,g1,g2,g3,g4,g5⟩:=(h'.gp f o ho).row
  refine ⟨I,cells,g1,g2,g3,g4,fun bj hb=> ?_⟩
  obtain ⟨k1,k2,k3⟩:=g5 bj hb
  refine ⟨?_,k2,k3⟩
  have hl:bj<w.heap.size:=by
   obtain ⟨I',HI,l1,l2,l3,l4,l5⟩:=(h.gp f o ho).row
   rcases l3.2 with ⟨hv,_⟩|⟨gg,cap,eZ,hv,_,hg,_⟩
   ·rw [hv] at hb;simp [Value.ownBlock] at hb
   ·rw [hv] at hb
    simp only [Value.ownBlock,Option.some.injEq] at hb
    have:=bo hg
    omega
  rcases k1 with ⟨x,y⟩|x
  ·exact .inl ⟨x,PQ _ hl y⟩
  ·exact .inr (wU _ hl x)
 ·refine ⟨(h.cc b (by omega)).1,?_⟩
  simp only [List.mem_cons,not_or]
  exact ⟨by omega,(h.cc b (by omega)).2⟩
def UG (b:Nat):Value:= .pointer (some ⟨b,0,none⟩)
def sX (ops:Array Oper) (i:Nat):Option Nat:=match ops[i]? with
 |some o=>o.dst
 |none=>none
def sb (ops:Array Oper):List (Nat×Nat)→Act→Act
 |[],a=>a
 |p::r,a=>(sb ops r a).put (sX ops p.1) (UG p.2)
structure UH (c:Ctx) (Z:bB) (ops:Array Oper) (e:Env) (w:World) (p:Nat×Nat):Prop where
 row: ∃o t I d arr T,ops[p.1]? =some o∧Je o=true∧o.op= .alloc t∧c.tv t=some I∧o.dst=some d∧w.heap[p.2]? =some (.cells arr T (0,0))∧ ∀e':Env,ax e' arr.toList I.zero
 free: ∀off,e.φ p.2 off=none
 cc:Z.In p.2
theorem xd {o:Oper} (h:Je o=true): ∃t d,o.op= .alloc t∧o.dst=some d∧o.guard=none∧ ∀e∈o.after,Region.binds .any e=false:=by
 unfold Je at h
 split at h
 ·rename_i t d h1 h2 h3
  refine ⟨t,d,h1,h2,h3,fun e he=> ?_⟩
  have:=List.all_eq_true.1 h e (by simpa using he)
  simpa [sW] using this
 ·cases h
theorem LX {t:TypeId} {I:TI} (hI:c.tv t=some I) (hT:jI P c.ti): ∃i z,P.info? t=some i∧i.zero=some z∧ ∀e:Env,ax e z.cells.toList I.zero:=by
 obtain ⟨oQ,hc⟩:=bK hI
 obtain ⟨d,i,h1,h2,h3,h4⟩:=hT t I oQ
 suffices hz: ∃z,i.zero=some z∧ ∀e:Env,ax e z.cells.toList I.zero by
  obtain ⟨z,h5,h6⟩:=hz
  exact ⟨i,z,h2,h5,h6⟩
 cases d<;>simp only [qB] at h4
 case struct fs=>obtain ⟨_,_,_,_,_,_,cs,hz,hl,_⟩:=h4;exact ⟨_,hz,fun e=>by simpa [Value.cells] using kl hl⟩
 case tuple ts=>exact absurd hc h4.2.1
 case slice el=>obtain ⟨_,_,_,_,_,hz,hl,_⟩:=h4;exact ⟨_,hz,fun e=>by rw [hl];exact ⟨[.slice none 0 0],[],rfl,rfl,rfl⟩⟩
 case array n el=>obtain ⟨_,_,_,_,_,_,_,hl,hz⟩:=h4;exact ⟨_,hz,fun e=>by rw [hl];exact ⟨bq jq.zero,[],by simp [Value.cells],rfl,rfl⟩⟩
 case bool=>obtain ⟨_,_,_,_,hl,hz⟩:=h4;exact ⟨_,hz,fun e=>by rw [hl];exact ⟨[.bool false],[],rfl,⟨rfl,.b _⟩,rfl⟩⟩
 case int k=>obtain ⟨_,_,_,_,hl,hz⟩:=h4;exact ⟨_,hz,fun e=>by rw [hl];exact ⟨[.int k 0],[],rfl,⟨rfl,.i _ _⟩,rfl⟩⟩
 case string=>
  obtain ⟨_,_,_,_,hl,b,hz,hb⟩:=h4
  refine ⟨_,hz,fun e=>by rw [hl];refine ⟨[.string b],[],rfl,⟨rfl,?_⟩,rfl⟩;rw [←hb];exact .s b⟩
 all_goals
  obtain ⟨_,_,_,_,v,hz,hv,hl⟩:=h4
  refine ⟨v,hz,fun e=> ?_⟩
  have:v.cells.toList=[v]:=by cases v<;>simp_all [Value.cells,Value.oneCell']
  rw [this];exact kl hl
theorem B3 {o:Oper} (hs: ∀cs b,o.op≠ .select cs b) (a:Act): ∀(pd:List (Nat×Nat)),(∀p∈pd,∀d,sX ops p.1=some d→d∉o.looksAt ops)→
 execOp (sb ops pd a).eval o=execOp a.eval o∧Region.wanted o (yielded ops (sb ops pd a).tmps)=Region.wanted o (yielded ops a.tmps)
 |[],_=>⟨rfl,rfl⟩
 |p::r,h=>by
  obtain ⟨h1,h2⟩:=B3 hs a r (fun q hq=>h q (by simp [hq]))
  have hp:=h p (by simp)
  exact ⟨(execOp_put o hs _ _ _ hp).trans h1,(wanted_put o _ _ _ hp).trans h2⟩
theorem zO (a:Act) (y:Option Nat) (v:Value): ∀(pd:List (Nat×Nat)),(∀p∈pd,∀d,sX ops p.1=some d→y≠some d)→(sb ops pd a).put y v=sb ops pd (a.put y v)
 |[],_=>rfl
 |p::r,h=>by
  simp only [sb]
  rw [Act.put_comm _ _ _ (fun d hd=>h p (by simp) d hd),zO a y v r (fun q hq=>h q (by simp [hq]))]
theorem UI {j:Nat} {oj:Oper} {x:Option Nat} {v:Value} (hj:ops[j]? =some oj) (h1: ∀d,x=some d→d∉oj.looksAt ops) (h2: ∀d,x=some d→oj.dst≠some d)
 (Zj: ∀cs b,oj.op≠ .select cs b) {K:Act→World→Prop} {a:Act} {w:World} (h:wpOp P ops (ra N) j K a w):
 wpOp P ops (ra N) j (fun a' w'=> ∃a'',a'=a''.put x v∧K a'' w') (a.put x v) w:=by
 unfold wpOp at *
 simp only [hj] at *
 rw [wanted_put oj a x v h1]
 split
 ·rename_i hw
  simp only [hw,if_true] at h
  rcases h with h|⟨abd,RQ⟩
  case inr=>obtain ⟨_,_,hf⟩:=RQ;exact hf.elim
  refine .inl ?_
  unfold Oper.wp at *
  rw [execOp_put oj Zj a x v h1]
  generalize (execOp a.eval oj).run P w=r at *
  cases r with
  |ok n w'=>
   cases n<;>simp only [Oper.upon] at h⊢
   case value u=>exact ⟨_,Act.put_comm a v u h2,h⟩
   case skip=>exact ⟨_,Act.put_comm a v undef h2,h⟩
   case defer d=>
    refine ⟨{a.put oj.dst undef with defers:=d::(a.put oj.dst undef).defers},?_,by simpa [Act.put_defers] using h⟩
    have:=Act.put_comm a v undef h2
    cases x<;>cases hd:oj.dst<;>simp_all [Act.put]
   case enter f args=>
    refine Calls.mono h fun y wS he=> ?_
    cases y with
    |returned u=>exact ⟨_,Act.put_comm a v u h2,he⟩
    |panicked c=>exact he
    |outgrown=>exact he
   case row row args=>exact Rows.mono h fun u wS he=>⟨_,Act.put_comm a v u h2,he⟩
  |halt y w'=>
   cases y<;>simp only [Oper.upon] at h⊢
   case panic u=>exact h
 ·rename_i hw
  simp only [hw] at h
  exact ⟨_,Act.put_comm a v undef h2,h⟩
theorem Nw {j:Nat} {oj:Oper} (hj:ops[j]? =some oj) (Zj: ∀cs b,oj.op≠ .select cs b) {K:Act→World→Prop} {a:Act} {w:World} (h:wpOp P ops (ra N) j K a w): ∀(pd:List (Nat×Nat)),
 (∀p∈pd,∀d,sX ops p.1=some d→d∉oj.looksAt ops∧oj.dst≠some d)→wpOp P ops (ra N) j (fun a' w'=> ∃a'',a'=sb ops pd a''∧K a'' w') (sb ops pd a) w
 |[],_=>wpOp_mono (fun a' w' hk=>⟨a',rfl,hk⟩) h
 |p::r,hp=>by
  have h1:=Nw hj Zj h r (fun q hq=>hp q (by simp [hq]))
  have h2:=UI (v:=UG p.2) hj (fun d hd=>(hp p (by simp) d hd).1) (fun d hd=>(hp p (by simp) d hd).2) Zj h1
  refine wpOp_mono ?_ h2
  rintro a' w' ⟨a1,rfl,a2,rfl,hk⟩
  exact ⟨a2,rfl,hk⟩
theorem Be: ∀{l m:List Nat},l.Nodup→(∀x∈l,x∈m)→l.length≤m.length
 |[],m,_,_=>Nat.zero_le _
 |x::l,m,hn,hs=>by
  have hn:=List.nodup_cons.1 hn
  have h1:l.length≤(m.erase x).length:=Be hn.2 fun y hy=>(List.mem_erase_of_ne (fun he=>hn.1 (by rw [←he];exact hy))).2 (hs y (by simp [hy]))
  have h2:=List.length_erase_of_mem (hs x (by simp))
  have h3:0<m.length:=List.length_pos_of_mem (hs x (by simp))
  simp only [List.length_cons];omega
theorem JP {x b:Nat} {o:Oper} (hdo:sX ops x=o.dst) (a:Act) (pr:List (Nat×Nat)): ∀(pl:List (Nat×Nat)),(∀p∈pl++pr,∀dd,sX ops p.1=some dd→o.dst≠some dd)→sb ops (pl++(x,b)::pr) a=sb ops (pl++pr) (a.put o.dst (UG b))
 |[],h=>by
  simp only [List.nil_append,sb,hdo]
  exact zO a o.dst (UG b) pr (fun p hp=>h p (by simp [hp]))
 |q::pl,h=>by
  simp only [List.cons_append,sb]
  rw [JP hdo a pr pl (fun p hp=>h p (by simp only [List.cons_append,List.mem_cons];exact .inr hp))]
theorem RU.congr {listed:Array Bool} {l l':List Nat} (h:RU ops listed l) (he: ∀i,i∈l↔i∈l'):RU ops listed l':=⟨h.size,fun i hi=>by rw [h.mem i hi,he]⟩
theorem JQ {o:Oper}: ∀(rest D:List Nat),qz c ops.toList o D rest=true→ ∀y∈rest,∀p,ops[y]? =some p→Je p=true→o.apart ops p=true:=by
 intro rest
 induction rest with
 |nil=>intro D _ y hy;cases hy
 |cons z rest ih=>
  intro D h y hy p hp BT
  simp only [qz] at h
  cases hz:ops.toList[z]? with
  |none=>simp [hz] at h
  |some q=>
   simp only [hz] at h
   cases he:yp q (bp D) with
   |true=>
    simp only [he,cond_true] at h
    rcases List.mem_cons.1 hy with rfl|hy
    ·exfalso
     have Za:ops[y]? =some q:=by simpa using hz
     rw [Za] at hp;cases hp
     obtain ⟨_,_,_,_,_,dt⟩:=xd BT
     unfold yp at he
     obtain ⟨ed,UF,hb⟩:=List.any_eq_true.1 he
     simp only [Bool.and_eq_true,sW] at hb
     rw [dt ed (by simpa using UF)] at hb
     exact absurd hb.1 (by simp)
    ·exact ih _ h y hy p hp BT
   |false=>
    simp only [he,cond_false,Bool.and_eq_true] at h
    rcases List.mem_cons.1 hy with rfl|hy
    ·have Za:ops[y]? =some q:=by simpa using hz
     rw [Za] at hp;cases hp
     exact xc h.1.1
    ·exact ih _ h.2 y hy p hp BT
theorem D7 {o p:Oper} {y:Nat} (hp:ops[y]? =some p) (h:p.apart ops o=true∨o.apart ops p=true): ∀d,sX ops y=some d→d∉o.looksAt ops∧o.dst≠some d:=by
 intro d hd
 have hd:p.dst=some d:=by simpa [sX,hp] using hd
 rcases h with h|h
 ·obtain ⟨h1,h2,h3⟩:=Oper.apart_spec h
  exact ⟨h1 d hd,h2 d hd⟩
 ·obtain ⟨h1,h2,h3⟩:=Oper.apart_spec h
  exact ⟨h3 d hd,fun he=>h2 d he hd⟩
theorem UH.later {Z:bB} {bs:List Nat} {e e':Env} {w w':World} {p:Nat×Nat} (h:UH c Z ops e w p) (hb:p.2∈bs) (t:Trans (Z.outs bs).In e.φ w e'.φ w'):UH c Z ops e' w' p:=by
 obtain ⟨o,ty,I,d,arr,T,h1,h2,h3,h4,h5,h6,h7⟩:=h.row
 have hn: ¬(Z.outs bs).In p.2:=fun hh=>hh.2 hb
 exact ⟨⟨o,ty,I,d,arr,T,h1,h2,h3,h4,h5,by rw [t.heap _ hn (bo h6)];exact h6,h7⟩,fun off=>by rw [t.free _ off hn];exact h.free off,h.cc⟩
theorem Trans.wide {Z Z':Nat→Prop} {φ φ':Ph} {w w':World} (t:Trans Z φ w φ' w') (h: ∀b,Z b→Z' b):Trans Z' φ w φ' w':=
 ⟨t.ph,fun b hb hl=>t.heap b (fun hz=>hb (h b hz)) hl,fun b o hb=>t.free b o (fun hz=>hb (h b hz)),t.size,t.rest⟩
theorem UJ (hG:Good P c) (JO: ∀(j:Nat) (o:Oper) cs b,ops[j]? =some o→o.op≠ .select cs b) {φ0:Ph} {w0:World} (hN: ∀a' w',Out c Z K r φ0 w0 a' w'→N a' w'):
 ∀(m:Nat) (rest pre:List Nat) (pd:List (Nat×Nat)) (l:List Oper) (listed:Array Bool) (e:Env) (st:St) (a:Act) (w:World),2 *rest.length-pd.length≤m→bP c (Z.outs (pd.map (·.2))) e st a w→yo c ops.toList l st K=some r→Trans Z.In φ0 w0 e.φ w→oa ops.toList rest=some l→
  sK c ops.toList pre rest=true→RU ops listed (pd.map (·.1)++pre)→(∀i,i<ops.size→i∈pre∨i∈rest)→(∀i∈pre,i<ops.size)→(∀p∈pd,p.1∈rest)→(pd.map (·.1)).Nodup→(pd.map (·.2)).Nodup→(∀p∈pd,UH c Z ops e w p)→
  pd.length≤rest.length→FN P c ops N e.φ (rest.length-pd.length) listed (sb ops pd a) w:=by
 intro m
 induction m with
 |zero=>
  intro rest pre pd l listed e st a w hm h hK ht hp hd hL oR LY PQ IP HF PM hle
  cases rest with
  |cons x rest=>simp only [List.length_cons] at hm hle;omega
  |nil=>
   cases pd with
   |cons p pd=>simp at hle
   |nil=>
    cases hp
    have h':bP c Z e st a w:=h.Nv (fun b hb=>hb.1) (fun b hb=>hb.1) rfl rfl rfl rfl
    refine ⟨?_,hN a w ⟨e,st,h',ht,hK⟩⟩
    cases hr:Region.ready .any ops listed with
    |nil=>rfl
    |cons i is=>
     have hi:i∈Region.ready .any ops listed:=by rw [hr];simp
     obtain ⟨h1,o,ho,_⟩:=mem_ready.1 hi
     have du:i<ops.size:=(Array.getElem?_eq_some_iff.1 ho).1
     exact absurd (by simpa using (oR i du).resolve_right (by simp)) ((hL.zN du).1 h1)
 |succ m ihm=>
  intro rest pre pd l listed e st a w hm h hK ht hp hd hL oR LY PQ IP HF PM hle
  cases rest with
  |nil=>
   cases pd with
   |cons p pd=>simp at hle
   |nil=>exact ihm [] pre [] l listed e st a w (by simp) h hK ht hp hd hL oR LY PQ IP HF PM hle
  |cons x rest=>
   simp only [oa] at hp
   cases Zl:ops.toList[x]? with
   |none=>simp [Zl] at hp
   |some o=>
    cases hpk:oa ops.toList rest with
    |none=>simp [Zl,hpk] at hp
    |some l'=>
     simp only [Zl,hpk,Option.some.injEq] at hp
     subst hp
     have hx:ops[x]? =some o:=by simpa using Zl
     have XA:x<ops.size:=(Array.getElem?_eq_some_iff.1 hx).1
     have hd0:=hd
     simp only [sK,Zl] at hd
     simp only [Bool.and_eq_true,Bool.not_eq_true'] at hd
     obtain ⟨⟨⟨⟨d1,d2⟩,d3⟩,d4⟩,d5⟩:=hd
     have Wb:x∉pre:=by rw [←bH,d2];simp
     have afu:x∉rest:=by rw [←bH,d3];simp
     have Ny: ∀i,i<ops.size→i∈x::pre∨i∈rest:=by
      intro i hi
      rcases oR i hi with h1|h1
      ·exact .inl (by simp [h1])
      ·rcases List.mem_cons.1 h1 with h1|h1
       ·exact .inl (by simp [h1])
       ·exact .inr h1
     have Wc: ∀i∈x::pre,i<ops.size:=by
      intro i hi
      rcases List.mem_cons.1 hi with rfl|hi
      ·exact XA
      ·exact LY i hi
     have XB:=hK
     simp only [yo] at hK
     have RV: ∀p∈pd,∃q,ops[p.1]? =some q∧Je q=true:=fun p hp=>by
      obtain ⟨q,_,_,_,_,_,h1,h2,_⟩:=(PM p hp).row
      exact ⟨q,h1,h2⟩
     unfold MY at hK
     obtain ⟨bL,go,h',hK,hw⟩:=JE h hK
     have Wd: ∀cs b,o.op≠ .select cs b:=fun cs b=>JO x o cs b hx
     by_cases hxp:x∈pd.map (·.1)
     ·
      obtain ⟨⟨x',b⟩,hpx,hxe⟩:=List.mem_map.1 hxp
      have hxe:x'=x:=hxe
      subst hxe
      obtain ⟨o',t,I,d,arr,T,k1,k2,k3,k4,k5,k6,k7⟩:=(PM _ hpx).row
      rw [hx] at k1;cases k1
      obtain ⟨_,_,_,_,hgn,dt⟩:=xd k2
      have UK:go=true:=by
       rw [←hw];simp [Region.wanted,hgn]
      subst UK
      have Jh:(nQ o&&!kQ c o)=false:=by simp [nQ,k3]
      simp only [Jh,cond_false] at d4
      obtain ⟨pl,pr,rfl⟩:=List.append_of_mem hpx
      have hbn:b∉(pl++pr).map (·.2):=by
       have:((pl++(x',b)::pr).map (·.2)).Nodup:=HF
       simp only [List.map_append,List.map_cons,List.nodup_append,List.nodup_cons,List.mem_cons] at this
       simp only [List.map_append,List.mem_append,not_or]
       exact ⟨fun hm=>this.2.2 b hm b (by simp) rfl,this.2.1.1⟩
      have hxn:x'∉(pl++pr).map (·.1):=by
       have:((pl++(x',b)::pr).map (·.1)).Nodup:=IP
       simp only [List.map_append,List.map_cons,List.nodup_append,List.nodup_cons,List.mem_cons] at this
       simp only [List.map_append,List.mem_append,not_or]
       exact ⟨fun hm=>this.2.2 x' hm x' (by simp) rfl,this.2.1.1⟩
      have JR: ∀p∈pl++pr,p∈pl++(x',b)::pr:=fun p hp=>by
       simp only [List.mem_append,List.mem_cons] at hp⊢
       rcases hp with hp|hp
       ·exact .inl hp
       ·exact .inr (.inr hp)
      have pT:bP c (Z.outs ((pl++pr).map (·.2))) e bL a w:=by
       refine h'.Nv (fun u hu=>⟨hu.1,fun hm=>hu.2 ?_⟩) (fun u hu=>⟨hu.1,fun hm=>hu.2 ?_⟩) rfl rfl rfl rfl<;>
       ·obtain ⟨p,hp,rfl⟩:=List.mem_map.1 hm
        exact List.mem_map.2 ⟨p,JR p hp,rfl⟩
      have UL:b∈(pl++(x',b)::pr).map (·.2):=by simp
      have sL:nS (Z.outs ((pl++pr).map (·.2))) e w bL (UG b) (.box I.zero):=by
       refine ⟨b,by rw [r5 (k7 e).vD];rfl,⟨⟨(PM _ hpx).cc,hbn⟩,⟨_,k6,rfl,k7 e⟩,(PM _ hpx).free⟩,fun t' ir zt xL=> ?_,fun f o' FD xL=> ?_⟩
       ·have hs:=h'.slot t'
        rw [zt] at hs
        rcases hs.2.cc with ⟨_,u⟩|u
        ·exact u.2 (by rw [xL];exact UL)
        ·exact u.2 (by rw [xL];exact UL)
       ·obtain ⟨I',cells,g1,g2,g3,g4,g5⟩:=(h'.gp f o' FD).row
        rcases (g5 b xL).1 with ⟨_,u⟩|u
        ·exact u.2 UL
        ·exact u.2 UL
      simp only [cond_true,Y0,k3,k4] at hK
      obtain ⟨e2,cS,j1,j2,j3⟩:=cU pT sL hK
      have XC:sb ops (pl++(x',b)::pr) a=sb ops (pl++pr) (a.put o.dst (UG b)):=by
       have tJ: ∀p∈pl++pr,∀dd,sX ops p.1=some dd→o.dst≠some dd:=by
        intro p hp dd hdd
        obtain ⟨q,hq,BT⟩:=RV p (JR p hp)
        have LZ:p.1∈rest:=by
         rcases List.mem_cons.1 (PQ p (JR p hp)) with he|he
         ·exact absurd (List.mem_map.2 ⟨p,hp,he⟩) hxn
         ·exact he
        have:=List.all_eq_true.1 d4 p.1 LZ
        have XD:ops.toList[p.1]? =some q:=by simpa using hq
        simp only [XD,BT,cond_true,Bool.and_eq_true] at this
        exact (D7 hq (.inl (xc this.1)) dd hdd).2
       exact JP (by simp [sX,hx]) a pr pl tJ
      rw [XC,←j3]
      have hlen:(x'::rest).length-(pl++(x',b)::pr).length=rest.length-(pl++pr).length:=by simp only [List.length_cons,List.length_append];omega
      rw [hlen]
      refine ihm rest (x'::pre) (pl++pr) l' listed e2 cS _ w ?_ j1 j2 (by rw [j3];exact ht) hpk d5 ?_ Ny Wc ?_ ?_ ?_ ?_ ?_
      ·simp only [List.length_cons,List.length_append] at hm⊢;omega
      ·refine hL.congr (fun i=> ?_)
       simp only [List.map_append,List.map_cons,List.mem_append,List.mem_cons]
       constructor
       ·rintro ((h1|h1|h1)|h1)
        ·exact .inl (.inl h1)
        ·exact .inr (.inl h1)
        ·exact .inl (.inr h1)
        ·exact .inr (.inr h1)
       ·rintro ((h1|h1)|h1|h1)
        ·exact .inl (.inl h1)
        ·exact .inl (.inr (.inr h1))
        ·exact .inl (.inr (.inl h1))
        ·exact .inr h1
      ·intro p hp
       rcases List.mem_cons.1 (PQ p (JR p hp)) with he|he
       ·exact absurd (List.mem_map.2 ⟨p,hp,he⟩) hxn
       ·exact he
      ·have:((pl++(x',b)::pr).map (·.1)).Nodup:=IP
       refine List.Nodup.sublist ?_ this
       exact List.Sublist.map _ (List.Sublist.append_left (List.sublist_cons_self _ _) pl)
      ·have:((pl++(x',b)::pr).map (·.2)).Nodup:=HF
       refine List.Nodup.sublist ?_ this
       exact List.Sublist.map _ (List.Sublist.append_left (List.sublist_cons_self _ _) pl)
      ·intro p hp
       obtain ⟨q1,q2,q3⟩:=PM p (JR p hp)
       exact ⟨q1,fun off=>by rw [j3];exact q2 off,q3⟩
      ·simp only [List.length_cons,List.length_append] at hle⊢;omega
     ·have LZ: ∀p∈pd,p.1∈rest:=fun p hp=>by
       rcases List.mem_cons.1 (PQ p hp) with he|he
       ·exact absurd (List.mem_map.2 ⟨p,hp,he⟩) hxp
       ·exact he
      have hlr:pd.length≤rest.length:=by
       have h1:(pd.map (·.1)).length≤rest.length:=Be IP (fun i hi=>by obtain ⟨p,hp,rfl⟩:=List.mem_map.1 hi;exact LZ p hp)
       simpa using h1
      have abh:(x::rest).length-pd.length=(rest.length-pd.length)+1:=by simp only [List.length_cons];omega
      rw [abh]
      have Xn:x∉pd.map (·.1)++pre:=by simp only [List.mem_append,not_or];exact ⟨hxp,Wb⟩
      have H8:x∈Region.ready .any ops listed:=by
       refine mem_ready.2 ⟨(hL.zN XA).2 Xn,o,hx,fun ed UF hb=> ?_⟩
       have:=List.all_eq_true.1 d1 ed (by simpa using UF)
       simp only [sW,hb,Bool.not_true,Bool.false_or] at this
       have hm:=(bH _ _).1 this
       exact (hL.done (LY _ hm)).2 (by simp [hm])
      have next: ∀(e':Env) (cS:St) (a':Act) (w':World),bP c (Z.outs (pd.map (·.2))) e' cS a' w'→Trans (Z.outs (pd.map (·.2))).In e.φ w e'.φ w'→yo c ops.toList l' cS K=some r→FN P c ops N e.φ (rest.length-pd.length) (listed.setIfInBounds x true) (sb ops pd a') w':=by
       intro e' cS a' w' h1 t1 lI
       refine O0 t1.ph _ _ _ _ ?_
       refine ihm rest (x::pre) pd l' _ e' cS a' w' ?_ h1 lI (ht.trans (t1.wide fun b hb=>hb.1)) hpk d5 ((hL.set XA).congr fun i=> ?_) Ny Wc LZ IP HF (fun p hp=>(PM p hp).later (List.mem_map.2 ⟨p,hp,rfl⟩) t1) hlr
       ·simp only [List.length_cons] at hm;omega
       ·simp only [List.mem_cons,List.mem_append]
        constructor
        ·rintro (h1|h1|h1)
         ·exact .inr (.inl h1)
         ·exact .inl h1
         ·exact .inr (.inr h1)
        ·rintro (h1|h1|h1)
         ·exact .inr (.inl h1)
         ·exact .inl h1
         ·exact .inr (.inr h1)
      cases Jh:nQ o&&!kQ c o with
      |true=>
       simp only [Jh,cond_true] at d4
       have tJ: ∀p∈pd,∀dd,sX ops p.1=some dd→dd∉o.looksAt ops∧o.dst≠some dd:=by
        intro p hp
        obtain ⟨q,hq,BT⟩:=RV p hp
        exact D7 hq (.inr (JQ rest [x] d4 p.1 (LZ p hp) q hq BT))
       obtain ⟨hex,Xz⟩:=B3 Wd a pd (fun p hp d hd=>(tJ p hp d hd).1)
       obtain ⟨D,D1,D2,D3,D4⟩:=FO rest [x] d4 (fun y hy dt=>absurd (by simpa using hy) dt)
       have uK: ∀j oj,ops[j]? =some oj→j∉D→j≠x→listed.getD j true=false→o.apart ops oj=true∧(kj c o=true→still c o=false→tP c o ops j=true):=by
        intro j oj Wa hjD hjx UD
        have abi:j<ops.size:=(Array.getElem?_eq_some_iff.1 Wa).1
        have hjr:j∈rest:=by
         rcases Ny j abi with h1|h1
         ·rcases List.mem_cons.1 h1 with h1|h1
          ·exact absurd h1 hjx
          ·exact absurd (by simp [h1]) ((hL.zN abi).1 UD)
         ·exact h1
        obtain ⟨p,WX,KY,hp3⟩:=D4 j hjr hjD
        rw [Wa] at WX
        cases WX
        exact ⟨KY,fun hl hs=>by simp [tP,Wa,hp3 hl hs]⟩
       have RS: ∀d∈D,listed.getD d false=false:=by
        have afw: ∀p∈pd,p.1∉D:=by
         intro p hp hpD
         obtain ⟨q,hq,BT⟩:=RV p hp
         obtain ⟨ed,UF,hb,_⟩:=D3 p.1 q hpD (fun he=>hxp (List.mem_map.2 ⟨p,hp,he⟩)) hq
         obtain ⟨_,_,_,_,_,dt⟩:=xd BT
         rw [dt ed UF] at hb;cases hb
        intro d hd
        have ZS:d∉pd.map (·.1)++pre:=by
         simp only [List.mem_append,not_or]
         constructor
         ·intro hm
          obtain ⟨p,hp,rfl⟩:=List.mem_map.1 hm
          exact afw p hp hd
         ·rcases D2 d hd with h1|h1
          ·have h1:d=x:=by simpa using h1
           rw [h1];exact Wb
          ·exact fun hp=>vI rest (x::pre) d5 d h1 (by simp [hp])
        by_cases TA:d<ops.size
        ·cases hg:listed.getD d false with
         |false=>rfl
         |true=>exact absurd ((hL.done TA).1 hg) ZS
        ·have hl: ¬d<listed.size:=by rw [hL.size];exact TA
         simp [hl]
       cases go with
       |true=>
        simp only [cond_true] at hK
        obtain ⟨v,hv,e2,cS,k1,k2,k3⟩:=(LO (Q:=ra N) hG h' hK).ae7 (by simp only [Bool.and_eq_true] at Jh;exact Jh.1) (by simp only [Bool.and_eq_true,Bool.not_eq_true'] at Jh;exact Jh.2)
        refine D6 D3 hx JO (rest.length-pd.length) listed _ w uK RS H8 (.inl ⟨by rw [Xz];exact hw,fun w' hg=>by rw [hex];exact hv w' hg⟩) h.nE ?_
        rw [zO a o.dst v pd (fun p hp d hd=>(tJ p hp d hd).2)]
        exact next e2 cS _ w k1 k2 k3
       |false=>
        simp only [cond_false] at hK
        obtain ⟨e2,cS,k1,k2,k3⟩:=cU (v:=undef) (s:= .skip) h' ⟨rfl,trivial⟩ hK
        refine D6 D3 hx JO (rest.length-pd.length) listed _ w uK RS H8 (.inr ⟨by rw [Xz];exact hw,rfl⟩) h.nE ?_
        rw [zO a o.dst undef pd (fun p hp d hd=>(tJ p hp d hd).2)]
        exact next e2 cS _ w k1 (by rw [k3];exact .refl _ _ _) k2
      |false=>
       simp only [Jh,cond_false] at d4
       have tJ: ∀p∈pd,∀dd,sX ops p.1=some dd→dd∉o.looksAt ops∧o.dst≠some dd:=by
        intro p hp
        obtain ⟨q,hq,BT⟩:=RV p hp
        have:=List.all_eq_true.1 d4 p.1 (LZ p hp)
        have XD:ops.toList[p.1]? =some q:=by simpa using hq
        simp only [XD,BT,cond_true,Bool.and_eq_true] at this
        exact D7 hq (.inl (xc this.1))
       refine ⟨fun UA=>(by rw [UA] at H8;cases H8),fun i hi=> ?_⟩
       obtain ⟨afx,oi,UM,XE⟩:=mem_ready.1 hi
       have XF:i<ops.size:=(Array.getElem?_eq_some_iff.1 UM).1
       have wU:=(hL.zN XF).1 afx
       simp only [List.mem_append,not_or] at wU
       by_cases UE:i=x
       ·subst UE
        rw [hx] at UM;cases UM
        have pT:wpOp P ops (ra N) i (fun a' w'=>(∀oi,tP c oi ops i=true→eX c oi w w')∧ ∃e2 cS,bP c (Z.outs (pd.map (·.2))) e2 cS a' w'∧Trans (Z.outs (pd.map (·.2))).In e.φ w e2.φ w'∧yo c ops.toList l' cS K=some r) a w:=by
         unfold wpOp
         simp only [hx]
         rw [hw]
         cases go with
         |true=>
          simp only [cond_true] at hK
          simp only [if_true]
          left
          have hd:=LO (Q:=ra N) hG h' hK
          cases K1:Qk c o with
          |true=>
           simp only [Qk,Bool.or_eq_true] at K1
           refine Oper.wp_mono ?_ (hd.ae8 K1)
           rintro a' w' ⟨hg,e2,cS,k1,k2,k3⟩
           exact ⟨fun _ _=>hg.for,e2,cS,k1,k2,k3⟩
          |false=>
           by_cases Oz: ∃oi,xI oi o=true
           ·obtain ⟨oi0,Oz⟩:=Oz
            refine Oper.wp_mono ?_ (aaK (Q:=ra N) hG h' hK Oz)
            rintro a' w' ⟨hg,e2,cS,k1,k2,k3⟩
            refine ⟨fun oi hh=> ?_,e2,cS,k1,k2,k3⟩
            have UM:xI oi o=true:=by simpa [tP,hx,K1] using hh
            exact LW Oz UM hg
           ·refine Oper.wp_mono ?_ hd.wp
            rintro a' w' ⟨e2,cS,k1,k2,k3⟩
            exact ⟨fun oi hh=>absurd ⟨oi,by simpa [tP,hx,K1] using hh⟩ Oz,e2,cS,k1,k2,k3⟩
         |false=>
          simp only [cond_false] at hK
          simp only [Bool.false_eq_true,if_false]
          obtain ⟨e2,cS,k1,k2,k3⟩:=cU (v:=undef) (s:= .skip) h' ⟨rfl,trivial⟩ hK
          exact ⟨fun _ _=>(dC.refl w).for,e2,cS,k1,by rw [k3];exact .refl _ _ _,k2⟩
        refine wpOp_mono ?_ (Nw hx Wd pT pd tJ)
        rintro a' w' ⟨a2,rfl,hg,e2,cS,k1,k2,k3⟩
        exact ⟨⟨hg,fun b o v hv=>k1.nE b o v (k2.ph b o v hv)⟩,next e2 cS a2 w' k1 k2 k3⟩
       ·have hir:i∈rest:=by
         rcases Ny i XF with h1|h1
         ·rcases List.mem_cons.1 h1 with h1|h1
          ·exact absurd h1 UE
          ·exact absurd h1 wU.2
         ·exact h1
        have L0:=List.all_eq_true.1 d4 i hir
        have afz:ops.toList[i]? =some oi:=by simpa using UM
        simp only [afz] at L0
        cases BT:Je oi with
        |false=>
         exfalso
         simp only [BT,cond_false] at L0
         unfold yp at L0
         obtain ⟨ed,UF,hb⟩:=List.any_eq_true.1 L0
         simp only [Bool.and_eq_true,sW,Bool.or_eq_true,Bool.not_eq_true'] at hb
         obtain ⟨sP,sH⟩:=hb
         have JS:=XE ed (by simpa using UF) sP
         have CV:ed.on∉pd.map (·.1)++pre:=by
          rcases sH with sH|⟨sH,W8⟩
          ·rw [Nat.eq_of_beq_eq_true sH];exact Xn
          ·simp only [List.mem_append,not_or]
           refine ⟨fun hm=> ?_,fun hp=>vI rest (x::pre) d5 _ ((bH _ _).1 sH) (by simp [hp])⟩
           obtain ⟨p,hp,he⟩:=List.mem_map.1 hm
           obtain ⟨q,hq,hqa⟩:=RV p hp
           have XD:ops.toList[ed.on]? =some q:=by rw [←he];simpa using hq
           simp [ZM,XD,hqa] at W8
         by_cases tq:ed.on<ops.size
         ·exact CV ((hL.done tq).1 JS)
         ·have:listed.getD ed.on false=false:=by
           have hl: ¬ed.on<listed.size:=by rw [hL.size];exact tq
           simp [hl]
          rw [this] at JS;cases JS
        |true=>
         obtain ⟨t,d,q1,q2,q3,q4⟩:=xd BT
         have hI: ∃I,c.tv t=some I:=by
          simp only [BT,cond_true,Bool.and_eq_true,ZL,q1] at L0
          cases htv:c.tv t with
          |none=>rw [htv] at L0;exact absurd L0.2 (by simp)
          |some I=>exact ⟨I,rfl⟩
         obtain ⟨I,hI⟩:=hI
         obtain ⟨inf,z,hz1,ZU,hz3⟩:=LX hI hG.ti
         have hg:dC w (w.alloc (.cells z.cells t)):= .alloc w _ _
         unfold wpOp
         simp only [UM]
         have Xz:Region.wanted oi (yielded ops (sb ops pd a).tmps)=true:=by simp [Region.wanted,q3]
         simp only [Xz,if_true]
         left
         have bW:(execOp (sb ops pd a).eval oi).run P w= .ok (.value (UG w.heap.size)) (w.alloc (.cells z.cells t)):=by
          simp [execOp,q1,Instr.alloc,zeroValue,typeInfo,hz1,ZU,newVar,newRow,newObj,Sem.run,UG]
         unfold Oper.wp
         rw [bW]
         simp only [Oper.upon]
         refine ⟨⟨fun _ _=>hg.for,(h.grow hg).nE⟩,?_⟩
         have qk:w.heap.size<(w.alloc (.cells z.cells t)).heap.size:=by simp
         have afA: ∀p∈pd,p.2<w.heap.size:=fun p hp=>by
          obtain ⟨_,_,_,_,_,_,_,_,_,_,_,k6,_⟩:=(PM p hp).row
          exact bo k6
         have XC:(sb ops pd a).put oi.dst (UG w.heap.size)=sb ops ((i,w.heap.size)::pd) a:=by simp [sb,sX,UM]
         rw [XC]
         have du:pd.length<rest.length:=by
          have h1:(i::pd.map (·.1)).length≤rest.length:=by
           refine Be (List.nodup_cons.2 ⟨wU.1,IP⟩) ?_
           intro j hj
           rcases List.mem_cons.1 hj with rfl|hj
           ·exact hir
           ·obtain ⟨p,hp,rfl⟩:=List.mem_map.1 hj;exact LZ p hp
          simp only [List.length_cons,List.length_map] at h1;omega
         have zh:rest.length-pd.length=(x::rest).length-((i,w.heap.size)::pd).length:=by simp only [List.length_cons];omega
         rw [zh]
         refine ihm (x::rest) pre ((i,w.heap.size)::pd) (o::l') _ e st a _ ?_ (h.narrow hg qk) ?_ (ht.trans (hg.trans (fun b hb=>(h.cc b hb).1) _)) ?_ hd0 ?_ oR LY ?_ ?_ ?_ ?_ ?_
         ·simp only [List.length_cons] at hm⊢;omega
         ·exact XB
         ·simp [oa,Zl,hpk]
         ·refine (hL.set XF).congr (fun j=> ?_)
          simp
         ·intro p hp
          rcases List.mem_cons.1 hp with rfl|hp
          ·exact List.mem_cons_of_mem _ hir
          ·exact PQ p hp
         ·exact List.nodup_cons.2 ⟨wU.1,IP⟩
         ·refine List.nodup_cons.2 ⟨fun hm=> ?_,HF⟩
          obtain ⟨p,hp,he⟩:=List.mem_map.1 hm
          have:=afA p hp
          have he:p.2=w.heap.size:=he
          omega
         ·intro p hp
          rcases List.mem_cons.1 hp with rfl|hp
          ·refine ⟨⟨oi,t,I,d,z.cells,t,UM,BT,q1,hI,q2,iu w _,hz3⟩,fun off=> ?_,(h.cc _ (Nat.le_refl _)).1⟩
           cases hp:e.φ w.heap.size off with
           |none=>rfl
           |some v=>
            have:=World.block_lt_of_cell? w _ (h.nE _ _ _ hp)
            simp at this
          ·obtain ⟨⟨o1,t1,I1,d1,afB,T1,k1,k2,k3,k4,k5,k6,k7⟩,q5,q6⟩:=PM p hp
           exact ⟨⟨o1,t1,I1,d1,afB,T1,k1,k2,k3,k4,k5,by rw [hg.r6 _ (bo k6)];exact k6,k7⟩,q5,q6⟩
         ·simp only [List.length_cons];omega
theorem JT (hG:Good P c) {ops:Array Oper} {l:List Oper} {ord:List Nat} (hd:yq c ops ord=true) (hp:oa ops.toList ord=some l) {Z:bB} {e:Env} {st:St} {a:Act} {w:World} {R:Type} {K:St→Option R} {r:R} (h:bP c Z e st a w) (hK:yo c ops.toList l st K=some r):
 wpAny P .any ops (ra fun a' w'=>Out c Z K r e.φ w a' w') ops.size (Array.replicate ops.size false) a {w with drawn:=w.drawn+1}:=by
 simp only [yq,Bool.and_eq_true] at hd
 obtain ⟨⟨⟨OA,hl0⟩,oR⟩,hd⟩:=hd
 have JO: ∀(j:Nat) (o:Oper) cs b,ops[j]? =some o→o.op≠ .select cs b:=by
  intro j o cs b ho he
  have:=List.all_eq_true.1 OA o (List.mem_of_getElem? (by simpa using ho:ops.toList[j]? =some o))
  simp [he] at this
 have We:dC w {w with drawn:=w.drawn+1}:=⟨Nat.le_refl _,fun _ _=>rfl,rfl,rfl,rfl,fun _=>rfl⟩
 ·refine RP (c:=c) (φ:=e.φ) _ _ _ _ ?_
  have hlen:ord.length=ops.size:=by have:=Nat.eq_of_beq_eq_true hl0;simpa using this
  rw [←hlen]
  have h0:bP c (Z.outs []) e st a {w with drawn:=w.drawn+1}:=(h.grow We).Nv (fun b hb=>⟨hb,by simp⟩) (fun b hb=>⟨hb,by simp⟩) rfl rfl rfl rfl
  refine UJ hG JO (fun a' w' h=>h) (2 *ord.length) ord [] [] l _ e st a _ (by simp) h0 hK (We.trans h.cc e.φ) hp hd ⟨by simp [hlen],fun i hi=> ?_⟩ (fun i hi=> .inr ((bH _ _).1 (List.all_eq_true.1 oR i (by simpa using hi)))) (by simp) (by simp) (by simp) (by simp) (by simp) (by simp)
  simp [hlen,hi]
end
end Dn
/-
  What is asked of slices.DeleteFunc, and of the function that it is handed. Conditions: none.
-/
set_option linter.unusedSimpArgs false
set_option linter.unusedVariables false
namespace Dn
open Go
structure D8 (P:Program) (c:Ctx) (g:Nat) (lb:Array Value) {S:Type} (Inv:S→(Nat→Prop)→Ph→World→Prop) (step:S→MV→Option (Bool×S)):Prop where
 call: ∀{s Z φ W v x b s'},Inv s Z φ W→(∀b,W.heap.size≤b→Z b)→zC φ W→gV c.key φ v x→step s x=some (b,s')→
  jf P g (#[v]++lb) W fun r W'=>r= .bool b∧ ∃φ',Trans Z φ W φ' W'∧zC φ' W'∧Inv s' Z φ' W'
 frame: ∀{s Z φ W W'},Inv s Z φ W→W.heap.size≤W'.heap.size→(∀b,Z b→b<W.heap.size→W'.heap[b]? =W.heap[b]?)→Inv s (fun b=>Z b∧b<W.heap.size) φ W'
 mono: ∀{s Z Z' φ W},Inv s Z φ W→(∀b,Z b→Z' b)→Inv s Z' φ W
structure UN (c:Ctx) (ob:Option Nat) {S:Type} (Inv:S→(Nat→Prop)→Ph→World→Prop) (Z0:Nat→Prop) (φ0:Ph) (w0:World) (s:S) (Z:Nat→Prop) (φ:Ph) (W:World):Prop where
 inv:Inv s Z φ W
 new: ∀b,W.heap.size≤b→Z b
 sub: ∀b,Z b→Z0 b∨w0.heap.size≤b
 nE:zC φ W
 tr:Trans (fun b=>(Z0 b∨w0.heap.size≤b)∨ob=some b) φ0 w0 φ W
 free: ∀b off,ob=some b→φ b off=none
structure XG (P:Program) (c:Ctx) (h el:Nat):Prop where
 run: ∀{S:Type} {Inv:S→(Nat→Prop)→Ph→World→Prop} {step:S→MV→Option (Bool×S)} {g:Nat} {lb:Array Value},D8 P c g lb Inv step→
  ∀{v0:Value} {xs ys:List MV} {w:World} {Z0:Nat→Prop} {φ0:Ph} {s0 s':S},(∀x∈xs,∃ms,x= .agg ms)→dc c (bB.plain fun b=>v0.ownBlock=some b) (q8 c.key φ0) w v0 ⟨el,false,xs⟩→(∀b,v0.ownBlock=some b→ ¬Z0 b)→
  Inv s0 Z0 φ0 w→(∀b,w.heap.size≤b→Z0 b)→zC φ0 w→ZN step s0 xs=some (ys,s')→
  jf P h #[v0,.func (.func g) #[] lb] w fun v W=> ∃Z φ,UN c v0.ownBlock Inv Z0 φ0 w s' Z φ W∧dc c (bB.plain fun b=>v0.ownBlock=some b) (q8 c.key φ) W v ⟨el,false,ys⟩∧ ∀b,v.ownBlock=some b→v0.ownBlock=some b
def pk (P:Program) (c:Ctx):Prop:= ∀h,c.N6 h=true→XG P c h (c.pB (c.key h))
end Dn
/-
  Regions with a call of slices.DeleteFunc. Conditions: none.
-/
set_option linter.unusedSimpArgs false
set_option linter.unusedVariables false
namespace Dn
open Go
section
variable {P:Program} {c:Ctx} {Z:bB} {Z':Nat→Prop} {e e':Env} {st bL:St} {a:Act} {w w':World} {R:Type} {K:St→Option R} {r:R} {Q:Exit→Act→World→Prop} {o:Oper} {root:Nat} {cs:List aE} {ks:List LK} {ls outs:List MV} {ps:List (Nat×Nat)} {φ':Ph}
end
end Dn
/-
  A call of slices.DeleteFunc. Conditions: none.
-/
set_option linter.unusedSimpArgs false
set_option linter.unusedVariables false
namespace Dn
open Go
section
variable {P:Program} {c:Ctx} {Z:bB} {e e':Env} {st bL:St} {a:Act} {w w':World} {R:Type} {K:St→Option R} {r:R} {Q:Exit→Act→World→Prop} {o:Oper}
theorem jf.imp {P:Program} {f:FuncId} {args:Array Value} {w:World} {R R':Value→World→Prop} (hc:jf P f args w R) (h: ∀v w',R v w'→R' v w'):jf P f args w R':=by
 unfold jf at hc⊢
 split
 ·rename_i gu
  rw [gu] at hc
  exact Calls.mono hc (fun x wS ⟨v,e,hr⟩=>⟨v,e,h v wS hr⟩)
 ·rename_i gu
  rw [gu] at hc
  exact h _ _ hc
 ·rename_i h1 h2
  split at hc
  ·rename_i gu;exact absurd gu (h1 _ _ _)
  ·rename_i gu;exact absurd gu (h2 _ _)
  ·exact hc
theorem Trans.Nv {I J:Nat→Prop} {φ φ':Ph} (h:Trans I φ w φ' w') (hs: ∀b,I b→J b):Trans J φ w φ' w':=
 ⟨h.ph,fun b hb=>h.heap b (fun hz=>hb (hs b hz)),fun b o hb=>h.free b o (fun hz=>hb (hs b hz)),h.size,h.rest⟩
theorem put_comm {a:Act} {x y:Nat} (h:x≠y) (v u:Value):(a.put (some x) v).put (some y) u=(a.put (some y) u).put (some x) v:=by
 show ({a with tmps:=(a.tmps.setIfInBounds x v).setIfInBounds y u}:Act)={a with tmps:=(a.tmps.setIfInBounds y u).setIfInBounds x v}
 rw [Array.setIfInBounds_comm v u h]
end
end Dn
/-
  Regions in the order of their text. Conditions: none.
-/
set_option linter.unusedSimpArgs false
set_option linter.unusedVariables false
namespace Dn
open Go
section
variable {P:Program} {c:Ctx} {Z:bB} {e:Env} {st:St} {a:Act} {w:World} {R:Type} {K:St→Option R} {r:R} {Q:Exit→Act→World→Prop} {ops:Array Oper}
theorem O2 (hG:Good P c) (Cy:pk P c) (id:Nat) (ops:Array Oper):JH P c id ops:=by
 intro Z e st a w R K r Q h hK hQ
 unfold Ql at hK
 exact GD (ON hG id ops) h hK hQ
end
end Dn
/-
  Open order with two operations that may be done either way round. Conditions: none.
-/
set_option linter.unusedSimpArgs false
set_option linter.unusedVariables false
namespace Dn
open Go
section
variable {P:Program} {ops:Array Oper} {Q:Exit→Act→World→Prop}
theorem GN (A B:Nat):(FC ops A B).size=ops.size:=by simp [FC]
theorem D9 (A B i:Nat):(FC ops A B)[i]? =(ops[i]?).map fun o=>if B=i then {o with after:=o.after.push ⟨A,.data⟩} else o:=by
 unfold FC
 rw [Array.getElem?_modify]
 by_cases h:B=i
 ·simp [h]
 ·cases ops[i]? <;>simp [h]
theorem H9 (A B:Nat) (tmps:Array Value):yielded (FC ops A B) tmps=yielded ops tmps:=by
 funext j
 unfold yielded
 rw [D9]
 cases ops[j]? with
 |none=>rfl
 |some o=>
  have e:(if B=j then {o with after:=o.after.push ⟨A,.data⟩} else o).dst=o.dst:=by split<;>rfl
  simp only [Option.map_some,Option.bind_some,e]
theorem O3 {A B i:Nat} {K:Act→World→Prop} {a:Act} {w:World} (h:wpOp P (FC ops A B) Q i K a w):wpOp P ops Q i K a w:=by
 unfold wpOp at h⊢
 rw [D9,H9] at h
 cases hi:ops[i]? with
 |none=>rw [hi] at h;exact h
 |some o=>
  rw [hi] at h
  simp only [Option.map_some] at h
  by_cases hb:B=i
  ·rw [if_pos hb] at h;exact h
  ·rw [if_neg hb] at h;exact h
theorem L1 {A B i:Nat} {listed:Array Bool}:i∈Region.ready .any (FC ops A B) listed↔i∈Region.ready .any ops listed∧(i=B→listed.getD A false=true):=by
 unfold Region.ready
 rw [GN]
 simp only [List.mem_filter,List.mem_range,D9]
 cases hi:ops[i]? with
 |none=>simp
 |some o=>
  by_cases hb:B=i
  ·subst hb
   simp [Array.all_push,Region.binds]
   constructor
   ·rintro ⟨h1,h2,h3,h4⟩;exact ⟨⟨h1,h2,h3⟩,h4⟩
   ·rintro ⟨⟨h1,h2,h3⟩,h4⟩;exact ⟨h1,h2,h3,h4⟩
  ·have Ct: ¬i=B:=fun e=>hb e.symm
   simp [hb,Ct]
def Wf (A B:Nat):Bool→List Nat→Prop
 |_,[]=>True
 |la,i::r=>(i=B→la=true)∧Wf A B (la||decide (i=A)) r
theorem Ea (A B:Nat): ∀L,Wf A B true L
 |[]=>trivial
 |i::r=>⟨fun _=>rfl,by simpa using Ea A B r⟩
theorem RW {A B:Nat} (h:A≠B): ∀L,Wf A B false L∨Wf B A false L
 |[]=> .inl trivial
 |i::r=>by
  by_cases ha:i=A
  ·subst ha
   exact .inl ⟨fun e=>absurd e h,by simpa using Ea i B r⟩
  ·by_cases hb:i=B
   ·subst hb
    exact .inr ⟨fun e=>absurd e ha,by simpa using Ea i A r⟩
   ·rcases RW h r with h1|h1
    ·exact .inl ⟨fun e=>absurd e hb,by simpa [ha] using h1⟩
    ·exact .inr ⟨fun e=>absurd e ha,by simpa [hb] using h1⟩
def pC (ops:Array Oper):List (Nat×Nat)→Array Oper
 |[]=>ops
 |p::E=>FC (pC ops E) p.1 p.2
theorem yD: ∀E,(pC ops E).size=ops.size
 |[]=>rfl
 |p::E=>by rw [pC,GN,yD E]
theorem Eb {i:Nat} {K:Act→World→Prop} {a:Act} {w:World}: ∀E,wpOp P (pC ops E) Q i K a w→wpOp P ops Q i K a w
 |[],h=>h
 |_::E,h=>Eb E (O3 h)
theorem vJ {i:Nat} {listed:Array Bool}: ∀E,i∈Region.ready .any (pC ops E) listed↔i∈Region.ready .any ops listed∧ ∀p∈E,i=p.2→listed.getD p.1 false=true
 |[]=>by simp [pC]
 |p::E=>by
  rw [pC,L1,vJ E,List.forall_mem_cons]
  exact ⟨fun h=>⟨h.1.1,h.2,h.1.2⟩,fun h=>⟨⟨h.1,h.2.2⟩,h.2.1⟩⟩
theorem L2 {E:List (Nat×Nat)}: ∀(fuel t:Nat) (listed:Array Bool) (a:Act) (w:World),(∀p∈E,p.1<listed.size)→wpAny P .any (pC ops E) Q fuel listed a w→
 (∀p∈E,Wf p.1 p.2 (listed.getD p.1 false) (Region.linearise.go .any ops fuel t listed []))→wpOps P ops Q (Region.linearise.go .any ops fuel t listed []) a w:=by
 intro fuel
 induction fuel with
 |zero=>intro t listed a w _ h _;simpa [Region.linearise.go,wpOps] using h.2
 |succ fuel ih=>
  intro t listed a w hs h hA
  obtain ⟨h₀,h₁⟩:=h
  simp only [Region.linearise.go] at hA⊢
  change wpOps P ops Q (match (Region.ready .any ops listed)[t%(Region.ready .any ops listed).length]? with
   |some i=>Region.linearise.go .any ops fuel (t/(Region.ready .any ops listed).length) (listed.setIfInBounds i true) [i]
   |none=>[].reverse) a w
  change∀p∈E,Wf p.1 p.2 (listed.getD p.1 false) (match (Region.ready .any ops listed)[t%(Region.ready .any ops listed).length]? with
   |some i=>Region.linearise.go .any ops fuel (t/(Region.ready .any ops listed).length) (listed.setIfInBounds i true) [i]
   |none=>[].reverse) at hA
  cases hi:(Region.ready .any ops listed)[t%(Region.ready .any ops listed).length]? with
  |none=>
   have QS:Region.ready .any ops listed=[]:=by
    cases hr:Region.ready .any ops listed with
    |nil=>rfl
    |cons x xs=>
     rw [hr] at hi
     have du:t%(x::xs).length<(x::xs).length:=Nat.mod_lt _ (by simp)
     simp at hi
     simp at du
     omega
   have abj:Region.ready .any (pC ops E) listed=[]:=by
    cases hr:Region.ready .any (pC ops E) listed with
    |nil=>rfl
    |cons x xs=>
     have:x∈Region.ready .any (pC ops E) listed:=by rw [hr];simp
     have:=((vJ E).1 this).1
     rw [QS] at this;cases this
   simpa [wpOps] using h₀ abj
  |some i=>
   rw [hi] at hA
   simp only [] at hA⊢
   rw [linearise_go_acc,List.reverse_singleton,List.singleton_append] at hA⊢
   rw [wpOps_cons]
   have JU:=(vJ E).2 ⟨List.mem_of_getElem? hi,fun p hp=>(hA p hp).1⟩
   refine wpOp_mono (fun a w hw=>ih _ _ a w (fun p hp=>by simpa using hs p hp) hw fun p hp=> ?_) (Eb E (h₁ i JU))
   have hg:(listed.setIfInBounds i true).getD p.1 false=(listed.getD p.1 false||decide (i=p.1)):=by
    rw [Array.getD_eq_getD_getElem?,Array.getD_eq_getD_getElem?,Array.getElem?_setIfInBounds]
    by_cases hia:i=p.1
    ·subst hia;simp [hs p hp]
    ·simp [hia]
   rw [hg];exact (hA p hp).2
theorem Ec {c:Ctx} (hG:Good P c) (Cz:P.follows .mixedOrders=true) (Cy:pk P c):DR P c:=by
 refine ⟨fun id ops=>O2 hG Cy id ops,?_,?_⟩
 ·intro id ops l hd hp Z e st a w R K r Q h hK hQ
  refine Code.wp_mono ?_ (wp_region_any Cz (JT hG hd hp h hK))
  intro x a' w' hx
  cases x<;>first|exact hQ a' w' hx|exact hx.elim
 ·intro id ops k l Z e st a w R K r Q h hK hQ
  refine Code.wp_mono (Q:=ra fun a' w'=>Out c Z K r e.φ w a' w') ?_ (wp_region_draw fun t=> ?_)
  ·intro x a' w' hx
   cases x<;>first|exact hQ a' w' hx|exact hx.elim
  simp only [Region.schedule,Cz,Bool.true_or,if_true]
  have leaf: ∀(E:List (Nat×Nat)) (l:List Nat),(∀p∈E,p.1<ops.size)→MZ c (pC ops E) l st K=some r→(∀p∈E,Wf p.1 p.2 false (Region.linearise.go .any ops ops.size t (Array.replicate ops.size false) []))→
   wpOps P ops (ra fun a' w'=>Out c Z K r e.φ w a' w') (Region.linearise.go .any ops ops.size t (Array.replicate ops.size false) []) a {w with drawn:=w.drawn+1}:=by
   intro E l hE hK hA
   unfold MZ at hK
   cases hd:yq c (pC ops E) l with
   |false=>simp [hd] at hK
   |true=>
    simp only [hd,cond_true] at hK
    split at hK
    ·rename_i l1 hp
     have w1:=JT hG hd hp h hK
     rw [yD] at w1
     exact L2 ops.size t _ a _ (by simpa using hE) w1 (fun p hp=>by simpa [hE p hp] using hA p hp)
    ·cases hK
  have key: ∀(k:Nat) (E:List (Nat×Nat)) (l:List Nat),(∀p∈E,p.1<ops.size)→Jf c st K k (pC ops E) l=some r→(∀p∈E,Wf p.1 p.2 false (Region.linearise.go .any ops ops.size t (Array.replicate ops.size false) []))→
   wpOps P ops (ra fun a' w'=>Out c Z K r e.φ w a' w') (Region.linearise.go .any ops ops.size t (Array.replicate ops.size false) []) a {w with drawn:=w.drawn+1}:=by
   intro k
   induction k with
   |zero=>intro E l _ hK;cases hK
   |succ k ih=>
    intro E l hE hK hA
    simp only [Jf] at hK
    cases hb:Nat.beq l.length (pC ops E).toList.length with
    |true=>
     simp only [hb,cond_true] at hK
     exact leaf E l hE hK hA
    |false=>
     simp only [hb,cond_false] at hK
     split at hK
     ·rename_i o1 o2 A B ht
      obtain ⟨q1,q2,q3⟩:=LU ht
      have qk:(pC ops E).toList.length=ops.size:=by rw [Array.length_toList,yD]
      rw [qk] at q2 q3
      obtain ⟨k1,k2⟩:=OO hK
      rcases RW q1 (Region.linearise.go .any ops ops.size t (Array.replicate ops.size false) []) with ho|ho
      ·exact leaf ((A,B)::E) o1 (List.forall_mem_cons.2 ⟨q2,hE⟩) k1 (List.forall_mem_cons.2 ⟨ho,hA⟩)
      ·exact ih ((B,A)::E) o2 (List.forall_mem_cons.2 ⟨q3,hE⟩) k2 (List.forall_mem_cons.2 ⟨ho,hA⟩)
     ·cases hK
  exact key k [] l (by simp) hK (by simp)
end
end Dn
/-
  Functions of the library, by hand: copies of slices. Conditions: none.
-/
set_option linter.unusedSimpArgs false
set_option linter.unusedVariables false
namespace Dn
open Go
section
variable {P:Program} {c:Ctx} {Q:Exit→Act→World→Prop} {ops:Array Oper} {o:Oper} {a:Act} {w w':World}
theorem tQ {i:Nat} {rest:List Nat} {v:Value} (hi:ops[i]? =some o) (hg:o.guard=none) (bW:(execOp a.eval o).run P w= .ok (.value v) w')
 (h:wpOps P ops Q rest (a.put o.dst v) w'):wpOps P ops Q (i::rest) a w:=by
 rw [wpOps_cons]
 unfold wpOp
 simp only [hi,Region.wanted,hg,if_true]
 left
 unfold Oper.wp
 rw [bW,Oper.upon_value];exact h
structure aP (o:Oper) (d:Nat) (op:Op):Prop where
 dst:o.dst=some d
 op:o.op=op
 guard:o.guard=none
theorem XH {key:Nat→Nat} {φ:Ph} {size:Nat} {v:Value} {xs:List MV} (mD:zC φ w) (jx:0<size) (hx:kR key φ [v] (.list xs)) (hw:mF size xs=true): ∃news,Src (q8 key φ) w size v xs news:=by
 generalize hv:[v]=vs at hx
 cases hx with
 |list ad cap _ bj off Gl f g1 g2 g3 g4 g5=>
 simp at hv
 have PL: ∀i,i<xs.length→(f i).length=size:=by
  intro i hi
  rw [(g5 i hi).width]
  exact zw hw _ (List.getElem_mem hi)
 obtain ⟨cs,h1,h2⟩:=Dw PL g5
 refine ⟨cs,h1,ad,cap,hv,?_,?_⟩
 ·intro hn
  cases xs with
  |nil=>rfl
  |cons y ys=>have:=g2 (by simp);rw [hn] at this;cases this
 ·intro x hx j u hj
  have Fz:j<cs.length:=(List.getElem?_eq_some_iff.1 hj).1
  rw [h1.length] at Fz
  have Dx:0<xs.length:=by
   cases xs with
   |nil=>simp at Fz
   |cons y ys=>simp
  have Oo:=g2 Dx
  rw [hx] at Oo
  cases Oo
  have hq:j/size<xs.length:=(Nat.div_lt_iff_lt_mul jx).2 Fz
  have hm:=Nat.mod_lt j jx
  have KV:j=j/size *size+j%size:=by rw [Nat.mul_comm];exact (Nat.div_add_mod j size).symm
  have e1:=h2 (j/size) (j%size) hq hm
  rw [←KV,hj] at e1
  have QQ:Gl=size:=by rw [←g3 0 Dx,PL 0 Dx]
  have e2:=g4 (j/size) (j%size) hq (by rw [QQ];exact hm)
  rw [←e1,QQ,Nat.add_assoc,←KV] at e2
  have:=mD _ _ _ e2
  rw [Addr.add_mid];exact this
theorem O4 {t t':TypeId} {el:TypeId} {x:Operand} {ad:Option Addr} {n cap:Nat} (hu:P.underlying t=some (.slice el)) (ho:o.op= .binOp .eql t x (.const (.slice none 0 0)) t') (hx:a.eval x= .slice ad n cap):
 (execOp a.eval o).run P w= .ok (.value (.bool ad.isNone)) w:=by
 have he:a.eval (.const (.slice none 0 0))= .slice none 0 0:=rfl
 have gu: ∀d:Nat,(Op.equalIn (d+1) t (.slice ad n cap) (.slice none 0 0)).run P w= .ok ad.isNone w:=by
  intro d
  cases ad<;>simp [Op.equalIn,run_underlying hu]
 have hb:Go.binOp .eql t (.slice ad n cap) (.slice none 0 0)=(do pure (.bool (←Op.equal t (.slice ad n cap) (.slice none 0 0)))):=rfl
 have hg: ∀(x y:Operand),(eqGuard .eql t x y (.slice ad n cap) (.slice none 0 0)).run P w= .ok () w:=fun _ _=>rfl
 have h2:(Op.equal t (.slice ad n cap) (.slice none 0 0)).run P w= .ok ad.isNone w:=gu 9999
 unfold execOp
 simp only [ho]
 rw [hx,he]
 simp [hg,hb,h2]
theorem vK {f:FuncId} {fn:Func} {t:TypeId} {I E:TI} {i0 i1 i2 i3:Nat} {oA oB oC oD oE oF oG oH:Oper} {xs:List MV} (hT:jI P c.ti) (hI:c.tv t=some I) (hL:I.wR=true) (hE:c.tv I.elem=some E) (sP:1≤E.bytes)
 (Ia:c.pB (c.key f)=I.elem) (hg:c.fK (c.key f)=false)
 (hf:P.funcs[f]? =some fn) (zK:(fn.name== "runtime.NumGoroutine")=false) (hn:fn.ntmps=8) (hr:fn.results= #[.tmp 2])
 (qF:fn.body=some (.seq (.region i0 #[oA] false) (.seq (.seq (.region i1 #[oB,oC] false) (.cond (.tmp 4) (.seq (.region i2 #[oD] false) .ret) .skip)) (.seq (.region i3 #[oE,oF,oG,oH] false) .ret))))
 (hA:aP oA 2 (.assign (.const (.slice none 0 0)))) (hB:aP oB 3 (.move (.tmp 0))) (hC:aP oC 4 (.binOp .eql t (.tmp 3) (.const (.slice none 0 0)) t)) (hD:aP oD 2 (.assign (.const (.slice none 0 0))))
 (hEo:aP oE 5 (.buildSlice t 0 #[])) (hF:aP oF 6 (.move (.tmp 0))) (hG:aP oG 7 (.call {callee:= .builtin .append,args:= #[.tmp 5,.tmp 6],argTypes:= #[t,t]})) (hH:aP oH 2 (.assign (.tmp 7)))
 (hw:mF E.size xs=true) (je:xs.length *E.bytes≤2^46):kn P c f [.list xs] (.fresh xs):=by
 obtain ⟨hIt,TY⟩:=bK hI
 obtain ⟨ql,r7⟩:=bK hE
 obtain ⟨hu,E2,BP,_,jx⟩:=TI.lB (hT t I hIt) hL
 rw [ql] at BP
 cases BP
 intro φ W Z vs hz iT mD
 simp only [gf,hg,Bool.false_eq_true,if_false] at iT
 obtain ⟨v,u,rfl,⟨_,hx⟩,hu0⟩:=iT
 have hu0:u=[]:=hu0
 subst hu0
 obtain ⟨ad,cap,hv,yx,hnn⟩: ∃ad cap,v= .slice ad xs.length cap∧xs.length≤cap∧(0<xs.length→ad≠none):=by
  have Gr:=hx
  generalize xN:[v]=vs at Gr
  cases Gr with
  |list ad cap _ bj off Gl f g1 g2 g3 g4 g5=>exact ⟨ad,cap,by simpa using xN,g1,fun h0 hn=>by rw [g2 h0] at hn;cases hn⟩
 have bW:(callFunc f [v].toArray).run P W= .ok (.enter f #[v]) W:=by
  have HF: ¬fn.name= "runtime.NumGoroutine" :=by simpa using zK
  simp [callFunc,hf,HF,qF]
 unfold jf
 rw [bW]
 refine calls_of_wp hf qF ?_
 rw [hn]
 have ha0:({tmps:= #[v]++Array.replicate (8-(#[v]:Array Value).size) undef,defers:=[]}:Act)={tmps:= #[v,undef,undef,undef,undef,undef,undef,undef],defers:=[]}:=rfl
 rw [ha0]
 have afF:List.range (#[oA]:Array Oper).size=[0]:=rfl
 have afG:List.range (#[oB,oC]:Array Oper).size=[0,1]:=rfl
 have afH:List.range (#[oE,oF,oG,oH]:Array Oper).size=[0,1,2,3]:=rfl
 have afI:List.range (#[oD]:Array Oper).size=[0]:=rfl
 have fin: ∀(a:Act) (W':World) (v':Value) (cells:List Value),a.defers=[]→a.tmps.getD 2 undef=v'→(∃φ',Trans Z φ W φ' W'∧zC φ' W'∧iH c Z φ' W' (c.key f) v' (.fresh xs))→
  bodyPost P fn (fun x wS=> ∃v,x= .returned v∧ ∃φ',Trans Z φ W φ' wS∧zC φ' wS∧iH c Z φ' wS (c.key f) v (.fresh xs)) .ret a W':=by
  intro a W' v' cells hd h2 h3
  refine ⟨hd,v',?_,v',rfl,h3⟩
  have Jm:a.tmps[2]?.getD undef=v':=by simpa using h2
  simp [results,hr,Jm]
 refine wp_seq (wp_region ?_)
 rw [afF]
 refine tQ (o:=oA) rfl hA.guard (v:= .slice none 0 0) (w':=W) (by simp [execOp,hA.op];rfl) ?_
 rw [hA.dst]
 refine wp_seq (wp_seq (wp_region ?_))
 rw [afG]
 refine tQ (o:=oB) rfl hB.guard (v:=v) (w':=W) (by simp [execOp,hB.op];rfl) ?_
 rw [hB.dst]
 refine tQ (o:=oC) rfl hC.guard (v:= .bool ad.isNone) (w':=W) (O4 hu hC.op (by rw [←hv];rfl)) ?_
 rw [hC.dst]
 refine wp_cond (t:=ad.isNone) rfl ?_
 cases Oo:ad.isNone with
 |true=>
  have Oo:ad=none:=by simpa using Oo
  have hxs:xs=[]:=by
   cases xs with
   |nil=>rfl
   |cons y ys=>exact absurd Oo (hnn (by simp))
  simp only [if_true]
  refine wp_seq (wp_region ?_)
  rw [afI]
  refine tQ (o:=oD) rfl hD.guard (v:= .slice none 0 0) (w':=W) (by simp [execOp,hD.op];rfl) ?_
  rw [hD.dst]
  refine wp_ret ?_
  refine fin _ W (.slice none 0 0) [] rfl rfl ⟨φ,.refl _ _ _,mD,?_⟩
  show dc c (bB.plain Z) (q8 c.key φ) W _ ⟨c.pB (c.key f),false,xs⟩
  rw [Ia,hxs]
  exact ⟨E,[],ql,r7,⟨by simp,.inl ⟨rfl,rfl⟩⟩,rfl,fun bj hb=>by simp [Value.ownBlock] at hb⟩
 |false=>
  simp only [Bool.false_eq_true,if_false]
  refine wp_skip ?_
  refine wp_seq (wp_region ?_)
  rw [afH]
  have abk:=Nd (P:=P) (c:=c) (w:=W) (t:=t) (I:=I) (vs:=[]) (parts:= #[]) hu ql r7 jx hT (by simp) (by simp) rfl
  simp only [List.length_nil,List.flatMap_nil] at abk
  refine tQ (o:=oE) rfl hEo.guard (v:= .slice (some ⟨W.heap.size,0,none⟩) 0 0) (w':=W.alloc (.cells #[] I.elem)) (by simp [execOp,hEo.op,abk]) ?_
  rw [hEo.dst]
  refine tQ (o:=oF) rfl hF.guard (v:=v) (w':=W.alloc (.cells #[] I.elem)) (by simp [execOp,hF.op];rfl) ?_
  rw [hF.dst]
  obtain ⟨news,vF⟩:=XH mD jx hx hw
  have VX:dC W (W.alloc (.cells #[] I.elem)):= .alloc W _ _
  have abl:Src (q8 c.key φ) (W.alloc (.cells #[] I.elem)) E.size v xs news:=by
   obtain ⟨ad',QD,q1,q2,q3⟩:=vF.val
   exact ⟨vF.VP,ad',QD,q1,q2,fun x hx j u hj=>VX.cell (q3 x hx j u hj)⟩
  have eB:(W.alloc (.cells #[] I.elem)).ownsRow 0 I.elem E.size (.slice (some ⟨W.heap.size,0,none⟩) 0 0) 0 []:=
   ⟨by simp,.inr ⟨W.heap.size,0, #[],rfl,Nat.zero_le _,iu W _,Nat.le_refl _,Nat.zero_le _,by simp,by simp⟩⟩
  obtain ⟨v',W',abm,tJ⟩:=yy (P:=P) (c:=c) (ty:=oG.type) hu ql r7 jx hT sP eB (abl.apx hu) (by simpa using je)
  refine tQ (o:=oG) rfl hG.guard (v:=v') (w':=W') (by
   have e1: ∀(a:Act),a.eval (.tmp 5)= .slice (some ⟨W.heap.size,0,none⟩) 0 0→a.eval (.tmp 6)=v→(execOp a.eval oG).run P (W.alloc (.cells #[] I.elem))= .ok (.value v') W':=by
    intro a h5 h6
    simp [execOp,hG.op,resolve,invoke,builtin,h5,h6,abm]
   exact e1 _ rfl rfl) ?_
  rw [hG.dst]
  refine tQ (o:=oH) rfl hH.guard (v:=v') (w':=W') (by simp [execOp,hH.op];rfl) ?_
  rw [hH.dst]
  refine wp_ret ?_
  refine fin _ W' v' [] rfl rfl ?_
  have qk:W.heap.size≤W'.heap.size:=Nat.le_trans VX.size tJ.size
  have hold: ∀b,b<W.heap.size→W'.heap[b]? =W.heap[b]? :=by
   intro b hb
   rw [tJ.r6 b (Nat.lt_of_lt_of_le hb VX.size) (by simp [Value.ownBlock];omega)]
   exact VX.r6 b hb
  refine ⟨φ,⟨.refl _,fun b _ hb=>hold b hb,fun _ _ _=>rfl,qk,VX.rest.trans tJ.rest⟩,?_,?_⟩
  ·intro b o u hbo
   have h1:=mD b o u hbo
   rw [World.cell?_of_block (hold b (World.block_lt_of_cell? W _ h1))];exact h1
  ·show dc c (bB.plain Z) (q8 c.key φ) W' v' ⟨c.pB (c.key f),false,xs⟩
   rw [Ia]
   refine ⟨E,news,ql,r7,by simpa using tJ.own,vF.VP,fun bj hb=> ?_⟩
   have jJ:W.heap.size≤bj:=by
    rcases tJ.place with h1|h1
    ·rw [h1] at hb;simp [Value.ownBlock] at hb;omega
    ·rw [h1] at hb
     cases hb
     exact VX.size
   refine ⟨hz bj jJ,fun off u hu=> ?_,fun hc=>hc.elim⟩
   have:=World.block_lt_of_cell? W _ (mD _ _ _ hu)
   have:bj<W.heap.size:=this
   omega
end
end Dn
/-
  Tables of functions. Conditions: none.
-/
namespace Dn
open Go
structure cR (P:Program) (c:Ctx) (g:Nat→List MV→Option MV):Prop where
 all: ∀f ms r,g (c.key f) ms=some r→kn P c f ms r
abbrev bD (n:Nat) (F:List MV→Option MV) (g:Nat→List MV→Option MV):Nat→List MV→Option MV:=fun k ms=>match Nat.beq k n with|true=>F ms|false=>g k ms
theorem cR.add {P:Program} {c:Ctx} {g:Nat→List MV→Option MV} {n:Nat} {F:List MV→Option MV} (h:cR P c g) (hF: ∀f ms r,c.key f=n→F ms=some r→kn P c f ms r):cR P c (bD n F g):=by
 refine ⟨fun f ms r hr=> ?_⟩
 unfold bD at hr
 cases hk:Nat.beq (c.key f) n with
 |true=>simp only [hk] at hr;exact hF f ms r (Nat.eq_of_beq_eq_true hk) hr
 |false=>simp only [hk] at hr;exact h.all f ms r hr
structure xy (c c':Ctx):Prop where
 ti:c'.ti=c.ti
 key:c'.key=c.key
 fK:c'.fK=c.fK
 fresh:c'.fresh=c.fresh
 pB:c'.pB=c.pB
 fk:c'.fk=c.fk
 mt:c'.mt=c.mt
 sig:c'.sig=c.sig
 N6:c'.N6=c.N6
theorem dc.j9 {c c':Ctx} (h:c'.ti=c.ti) {Z:bB} {e:Env} {w:World} {v:Value} {o:mG} (hs:dc c Z e w v o):dc c' Z e w v o:=by
 obtain ⟨I,cells,h1,h2⟩:=hs.row
 exact ⟨I,cells,by rw [h];exact h1,h2⟩
theorem iH.j9 {c c':Ctx} (h:xy c c') {Z:Nat→Prop} {φ:Ph} {w:World} {k:Nat} {v:Value} {r:MV} (hs:iH c Z φ w k v r):iH c' Z φ w k v r:=by
 cases r<;>simp only [iH,h.key,h.pB] at hs⊢ <;>first|exact hs|exact hs.j9 h.ti
theorem nU.j9 {c c':Ctx} (h:xy c c') {Z:Nat→Prop} {φ:Ph} {w:World} {bj:Nat} {ks:List LK} {ls:List MV} (hs:nU c Z φ w bj ks ls):nU c' Z φ w bj ks ls:=by
 obtain ⟨cs,m,E,arr,T,h1,h2,h3,h4,h5,h6,h7⟩:=hs
 refine ⟨cs,m,E,arr,T,h1,h2,h3,h4,by rw [h.key];exact h5,fun f o ho=>⟨?_,(h6 f o ho).2⟩,h7⟩
 rw [h.key]
 exact (h6 f o ho).1.j9 h.ti
theorem rC.j9 {c c':Ctx} (h:xy c c') {Z:Nat→Prop} {φ:Ph} {w:World} {k:Nat} {vs:List Value} {v:Value} {r:MV} (hs:rC c Z φ w k vs v r):rC c' Z φ w k vs v r:=by
 cases r<;>simp only [rC] at hs⊢ <;>first|exact hs.j9 h|skip
 obtain ⟨h1,pos,ks,bj,off,h2,h3,h4⟩:=hs
 exact ⟨h1.j9 h,pos,ks,bj,off,by rw [h.sig];exact h2,h3,h4.j9 h⟩
theorem gf.j9 {c c':Ctx} (h:xy c c') {Z:Nat→Prop} {φ:Ph} {w:World} {k:Nat} {vs:List Value} {ms:List MV} (hs:gf c' Z φ w k vs ms):gf c Z φ w k vs ms:=by
 unfold gf at hs⊢
 rw [h.fK] at hs
 split
 ·rename_i hg
  rw [if_pos hg] at hs
  rcases hs with ⟨v0,v1,v2,xs,m1,ys,h1,h2,h3,h4,h5,h6⟩|⟨v0,v1,v2,xs,m1,m2,h1,h2,h3,h4,h5,h6⟩|⟨pos,ks,off,ls,bj,h1,h2,h3,h4,h5⟩
  ·rw [h.key,h.pB] at h3 h5
   rw [h.key] at h4
   exact .inl ⟨v0,v1,v2,xs,m1,ys,h1,h2,h3.j9 h.ti.symm,h4,h5.j9 h.ti.symm,h6⟩
  ·rw [h.key,h.pB] at h4
   rw [h.key] at h5 h6
   exact .inr (.inl ⟨v0,v1,v2,xs,m1,m2,h1,h2,h3,h4.j9 h.ti.symm,h5,h6⟩)
  ·refine .inr (.inr ⟨pos,ks,off,ls,bj,by rw [←h.sig];exact h1,h2,h3,by rw [←h.key];exact h4,?_⟩)
   obtain ⟨cs,m,E,arr,T,k1,k2,k3,k4,k5,k6,k7⟩:=h5
   refine ⟨cs,m,E,arr,T,k1,k2,k3,k4,by rw [←h.key];exact k5,fun f o ho=>⟨?_,(k6 f o ho).2⟩,k7⟩
   rw [←h.key]
   exact (k6 f o ho).1.j9 h.ti.symm
 ·rename_i hg
  rw [if_neg hg,h.key] at hs
  exact hs
theorem jf.mono {P:Program} {f:FuncId} {args:Array Value} {w:World} {R R':Value→World→Prop} (hc:jf P f args w R) (h: ∀v w',R v w'→R' v w'):jf P f args w R':=by
 unfold jf at hc⊢
 split
 ·rename_i gu
  rw [gu] at hc
  exact Calls.mono hc (fun x wS ⟨v,e,hr⟩=>⟨v,e,h v wS hr⟩)
 ·rename_i gu
  rw [gu] at hc
  exact h _ _ hc
 ·rename_i h1 h2
  split at hc
  ·rename_i gu;exact absurd gu (h1 _ _ _)
  ·rename_i gu;exact absurd gu (h2 _ _)
  ·exact hc
theorem kn.j9 {P:Program} {c c':Ctx} {f:Nat} {ms:List MV} {r:MV} (h:xy c c') (hs:kn P c f ms r):kn P c' f ms r:=by
 intro φ w Z vs hz ha hi
 rw [h.key] at ha
 refine (hs φ w Z vs hz (ha.j9 h) hi).mono ?_
 rintro v w' ⟨φ',h1,h2,h3⟩
 rw [h.key]
 exact ⟨φ',h1,h2,h3.j9 h⟩
theorem xy.symm {c c':Ctx} (h:xy c c'):xy c' c:=⟨h.ti.symm,h.key.symm,h.fK.symm,h.fresh.symm,h.pB.symm,h.fk.symm,h.mt.symm,h.sig.symm,h.N6.symm⟩
theorem D8.j9 {P:Program} {c c':Ctx} (h:xy c c') {g:Nat} {lb:Array Value} {S:Type} {Inv:S→(Nat→Prop)→Ph→World→Prop} {step:S→MV→Option (Bool×S)} (hp:D8 P c' g lb Inv step):D8 P c g lb Inv step:=
 ⟨fun h1 h2 h3 h4 h5=>hp.call h1 h2 h3 (by rw [h.key];exact h4) h5,hp.frame,hp.mono⟩
theorem pk.j9 {P:Program} {c c':Ctx} (h:xy c c') (hd:pk P c):pk P c':=by
 intro f hf
 rw [h.N6] at hf
 have hx:=hd f hf
 refine ⟨?_⟩
 intro S Inv step g lb hp v0 xs ys w Z0 φ0 s0 s' h1 h2 h3 h4 h5 h6 h7
 rw [h.key,h.pB] at h2
 refine (hx.run (hp.j9 h) h1 (h2.j9 h.ti.symm) h3 h4 h5 h6 h7).mono ?_
 rintro v W ⟨Z,φ,hW,hF,hb⟩
 refine ⟨Z,φ,⟨hW.inv,hW.new,hW.sub,hW.nE,hW.tr,hW.free⟩,?_,hb⟩
 rw [h.key,h.pB]
 exact hF.j9 h.ti
def xV (c:Ctx) (n:Nat) (fn:Func) (cG:List (List Kd)):Bool:=
 !(fn.name== "runtime.NumGoroutine")&&Nat.beq c.n fn.ntmps&&Nat.ble (fn.params.size+cG.length) fn.ntmps&&!c.fK n
def yE (c:Ctx) (n:Nat) (fn:Func):Option Nat→Bool
 |none=>true
 |some ty=>Nat.beq ty (c.pB n)&&(Nat.beq fn.results.toList.length 1&&(match c.tv ty with|some _=>true|none=>false))
theorem GO {c:Ctx} {n:Nat} {fn:Func} {fresh:Option Nat} (h:yE c n fn fresh=true): ∀ty,fresh=some ty→ty=c.pB n∧fn.results.toList.length=1∧ ∃I,c.tv ty=some I:=by
 rintro ty rfl
 simp only [yE,Bool.and_eq_true] at h
 obtain ⟨h1,h2,h3⟩:=h
 refine ⟨Nat.eq_of_beq_eq_true h1,Nat.eq_of_beq_eq_true h2,?_⟩
 cases hc:c.tv ty with
 |none=>rw [hc] at h3;cases h3
 |some I=>exact ⟨I,rfl⟩
theorem cR.body {P:Program} {c c':Ctx} {g:Nat→List MV→Option MV} {n:Nat} {fn:Func} {cG:List (List Kd)} (h:cR P c g) (hl:xy c c') (PU:c'.g=g) (oQ:jI P c.ti) (gu:HE P c.ti) (Dh: ∀t k,c.fk t=some k→P.underlying t=some (.float k)) (IW:tL P c) (Cz:P.follows .mixedOrders=true) (Cy:pk P c)
 (hf:P.funcs[n]? =some fn) (hh:xV c' n fn cG=true) (r8: ∀f,c.key f=f) {fresh:Option Nat} (Cu:yE c' n fn fresh=true):cR P c (bD n (Gk c' cG fresh fn) g):=by
 have hG:Good P c':=by
  refine ⟨by rw [hl.ti];exact oQ,by rw [hl.ti];exact gu,fun f ms r hr=> ?_,by rw [hl.fk];exact Dh,fun t s hs=>IW t s ?_⟩
  ·rw [PU,hl.key] at hr
   exact (h.all f ms r hr).j9 hl
  ·rw [←hs];unfold r4 Ctx.tv;rw [hl.mt,hl.ti]
 refine h.add (fun f ms r hk hr=> ?_)
 rw [r8] at hk
 subst hk
 simp only [xV,Bool.and_eq_true,Bool.not_eq_true'] at hh
 obtain ⟨⟨⟨h1,h2⟩,h3⟩,h4⟩:=hh
 exact (Uw hG (Ec hG Cz (Cy.j9 hl)) hf h1 (Nat.eq_of_beq_eq_true h2) (Nat.le_of_ble_eq_true h3) (by rw [hl.key,r8];exact h4) (by rw [hl.key,r8];exact GO Cu) hr).j9 hl.symm
def JV (c:Ctx) (n:Nat) (fn:Func) (cG:List (List Kd)):Bool:=
 !(fn.name== "runtime.NumGoroutine")&&Nat.beq c.n fn.ntmps&&Nat.ble fn.ntmps 1000000&&Nat.ble (fn.params.size+cG.length) fn.ntmps&&c.fK n
theorem cR.UO {P:Program} {c:Ctx} {g:Nat→List MV→Option MV} {n pos:Nat} {ks:List LK} {fn:Func} {cG:List (List Kd)} {F:List MV→Option MV} (h:cR P c g) (oQ:jI P c.ti) (gu:HE P c.ti) (Dh: ∀t k,c.fk t=some k→P.underlying t=some (.float k)) (IW:tL P c) (Cz:P.follows .mixedOrders=true) (Cy:pk P c)
 (hf:P.funcs[n]? =some fn) (HX:c.sig n=some (pos,ks)) (r8: ∀f,c.key f=f) (hF: ∀{ms r},F ms=some r→ ∃c':Ctx,xy c c'∧c'.g=g∧JV c' n fn cG=true∧zn c' cG pos ks fn ms=some r):cR P c (bD n F g):=by
 refine h.add (fun f ms r hk hr=> ?_)
 rw [r8] at hk
 subst hk
 obtain ⟨c',hl,PU,hh,hr⟩:=hF hr
 have hG:Good P c':=by
  refine ⟨by rw [hl.ti];exact oQ,by rw [hl.ti];exact gu,fun f ms r hr=> ?_,by rw [hl.fk];exact Dh,fun t s hs=>IW t s ?_⟩
  ·rw [PU,hl.key] at hr
   exact (h.all f ms r hr).j9 hl
  ·rw [←hs];unfold r4 Ctx.tv;rw [hl.mt,hl.ti]
 simp only [JV,Bool.and_eq_true,Bool.not_eq_true'] at hh
 obtain ⟨⟨⟨⟨h1,h2⟩,Jm⟩,h3⟩,h4⟩:=hh
 exact (RN hG (Ec hG Cz (Cy.j9 hl)) hf h1 (Nat.eq_of_beq_eq_true h2) (Nat.le_of_ble_eq_true Jm) (Nat.le_of_ble_eq_true h3) (by rw [hl.key,r8];exact h4) (by rw [hl.sig,hl.key,r8];exact HX) hr).j9 hl.symm
end Dn
/-
  One function that is handed a variable in two ways. Conditions: none.
-/
namespace Dn
open Go
abbrev UP (n:Nat) (g:Nat→List MV→Option MV):Nat→List MV→Option MV:=fun k ms=>match Nat.beq k n with|true=>none|false=>g k ms
structure B4 (k0:Nat) (c c':Ctx):Prop where
 ti:c'.ti=c.ti
 key:c'.key=c.key
 fK:c'.fK=c.fK
 fresh:c'.fresh=c.fresh
 pB:c'.pB=c.pB
 sig: ∀k,k≠k0→c'.sig k=c.sig k
theorem iH.xW {k0:Nat} {c c':Ctx} (h:B4 k0 c c') {Z:Nat→Prop} {φ:Ph} {w:World} {k:Nat} {v:Value} {r:MV} (hs:iH c Z φ w k v r):iH c' Z φ w k v r:=by
 cases r<;>simp only [iH,h.key,h.pB] at hs⊢ <;>first|exact hs|exact hs.j9 h.ti
theorem nU.xW {k0:Nat} {c c':Ctx} (h:B4 k0 c c') {Z:Nat→Prop} {φ:Ph} {w:World} {bj:Nat} {ks:List LK} {ls:List MV} (hs:nU c Z φ w bj ks ls):nU c' Z φ w bj ks ls:=by
 obtain ⟨cs,m,E,arr,T,h1,h2,h3,h4,h5,h6,h7⟩:=hs
 refine ⟨cs,m,E,arr,T,h1,h2,h3,h4,by rw [h.key];exact h5,fun f o ho=>⟨?_,(h6 f o ho).2⟩,h7⟩
 rw [h.key]
 exact (h6 f o ho).1.j9 h.ti
theorem rC.xW {k0:Nat} {c c':Ctx} (h:B4 k0 c c') {Z:Nat→Prop} {φ:Ph} {w:World} {k:Nat} (hk:k≠k0) {vs:List Value} {v:Value} {r:MV} (hs:rC c Z φ w k vs v r):rC c' Z φ w k vs v r:=by
 cases r<;>simp only [rC] at hs⊢ <;>first|exact hs.xW h|skip
 obtain ⟨h1,pos,ks,bj,off,h2,h3,h4⟩:=hs
 exact ⟨h1.xW h,pos,ks,bj,off,by rw [h.sig k hk];exact h2,h3,h4.xW h⟩
theorem gf.xW {k0:Nat} {c c':Ctx} (h:B4 k0 c c') {Z:Nat→Prop} {φ:Ph} {w:World} {k:Nat} (hk:k≠k0) {vs:List Value} {ms:List MV} (hs:gf c' Z φ w k vs ms):gf c Z φ w k vs ms:=by
 unfold gf at hs⊢
 rw [h.fK] at hs
 split
 ·rename_i hg
  rw [if_pos hg] at hs
  rcases hs with ⟨v0,v1,v2,xs,m1,ys,h1,h2,h3,h4,h5,h6⟩|⟨v0,v1,v2,xs,m1,m2,h1,h2,h3,h4,h5,h6⟩|⟨pos,ks,off,ls,bj,h1,h2,h3,h4,h5⟩
  ·rw [h.key,h.pB] at h3 h5
   rw [h.key] at h4
   exact .inl ⟨v0,v1,v2,xs,m1,ys,h1,h2,h3.j9 h.ti.symm,h4,h5.j9 h.ti.symm,h6⟩
  ·rw [h.key,h.pB] at h4
   rw [h.key] at h5 h6
   exact .inr (.inl ⟨v0,v1,v2,xs,m1,m2,h1,h2,h3,h4.j9 h.ti.symm,h5,h6⟩)
  ·refine .inr (.inr ⟨pos,ks,off,ls,bj,by rw [←h.sig k hk];exact h1,h2,h3,by rw [←h.key];exact h4,?_⟩)
   obtain ⟨cs,m,E,arr,T,k1,k2,k3,k4,k5,k6,k7⟩:=h5
   refine ⟨cs,m,E,arr,T,k1,k2,k3,k4,by rw [←h.key];exact k5,fun f o ho=>⟨?_,(k6 f o ho).2⟩,k7⟩
   rw [←h.key]
   exact (k6 f o ho).1.j9 h.ti.symm
 ·rename_i hg
  rw [if_neg hg,h.key] at hs
  exact hs
theorem kn.xW {P:Program} {k0:Nat} {c c':Ctx} {f:Nat} {ms:List MV} {r:MV} (h:B4 k0 c c') (hk:c.key f≠k0) (hs:kn P c f ms r):kn P c' f ms r:=by
 intro φ w Z vs hz ha hi
 rw [h.key] at ha
 refine (hs φ w Z vs hz (ha.xW h hk) hi).mono ?_
 rintro v w' ⟨φ',h1,h2,h3⟩
 rw [h.key]
 exact ⟨φ',h1,h2,h3.xW h hk⟩
theorem cR.alt {P:Program} {k0:Nat} {c c':Ctx} {g:Nat→List MV→Option MV} (h:cR P c g) (hl:B4 k0 c c'):cR P c' (UP k0 g):=by
 refine ⟨fun f ms r hr=> ?_⟩
 rw [hl.key] at hr
 unfold UP at hr
 cases hk:Nat.beq (c.key f) k0 with
 |true=>simp only [hk] at hr;cases hr
 |false=>
  simp only [hk] at hr
  refine (h.all f ms r hr).xW hl (fun he=> ?_)
  rw [he,Nat.beq_refl] at hk
  cases hk
end Dn
/-
  Steps through a function of the library by hand. Conditions: none.
-/
set_option linter.unusedSimpArgs false
set_option linter.unusedVariables false
namespace Dn
open Go
def IX (σ:Nat→Value) (d:Nat) (v:Value):Nat→Value:=fun t=>bif Nat.beq t d then v else σ t
def ev (σ:Nat→Value):Operand→Value
 | .tmp t=>σ t
 | .const v=>v
 | .global g=> .pointer (some ⟨g,0,none⟩)
 | .func f=> .func (.func f) #[] #[]
structure Tm (a:Act) (n:Nat) (σ:Nat→Value):Prop where
 defers:a.defers=[]
 size:a.tmps.size=n
 get: ∀t,a.tmps.getD t undef=σ t
theorem Tm.eval {a:Act} {n:Nat} {σ:Nat→Value} (h:Tm a n σ):a.eval=ev σ:=by
 funext x
 cases x with
 |tmp t=>exact h.get t
 |_=>rfl
theorem Tm.put {a:Act} {n:Nat} {σ:Nat→Value} (h:Tm a n σ) {d:Nat} (hd:d<n) (v:Value):Tm (a.put (some d) v) n (IX σ d v):=by
 refine ⟨h.defers,by simp [Act.put,h.size],fun t=> ?_⟩
 show (a.tmps.setIfInBounds d v).getD t undef=bif Nat.beq t d then v else σ t
 by_cases ht:t=d
 ·subst ht
  have:t<a.tmps.size:=by rw [h.size];exact hd
  simp [this]
 ·have hb:Nat.beq t d=false:=by
   cases hq:Nat.beq t d with
   |false=>rfl
   |true=>exact absurd (Nat.eq_of_beq_eq_true hq) ht
  rw [hb]
  have:=h.get t
  simp only [Array.getD_eq_getD_getElem?,Array.getElem?_setIfInBounds_ne (Ne.symm ht),cond_false] at this⊢
  exact this
theorem tm3 (v0 v1 v2:Value) (k:Nat):Tm {tmps:= #[v0,v1,v2]++Array.replicate k undef,defers:=[]} (k+3) (IX (IX (IX (fun _=>undef) 0 v0) 1 v1) 2 v2):=by
 refine ⟨rfl,by simp [Nat.add_comm],fun q=> ?_⟩
 by_cases h0:q=0
 ·subst h0;show (#[v0,v1,v2]++Array.replicate k undef).getD 0 undef=v0;simp [Array.getElem?_append]
 by_cases h1:q=1
 ·subst h1;show (#[v0,v1,v2]++Array.replicate k undef).getD 1 undef=v1;simp [Array.getElem?_append]
 by_cases h2:q=2
 ·subst h2;show (#[v0,v1,v2]++Array.replicate k undef).getD 2 undef=v2;simp [Array.getElem?_append]
 have e: ∀{x y:Nat},x≠y→Nat.beq x y=false:=fun {x y} h=>by
  cases hq:Nat.beq x y with
  |false=>rfl
  |true=>exact absurd (Nat.eq_of_beq_eq_true hq) h
 simp only [IX,e h0,e h1,e h2,cond_false]
 have h3:3≤q:=by omega
 simp [Array.getElem?_append,Array.getElem?_replicate,show¬q<3 by omega]
 by_cases hk:q-3<k<;>simp [hk]
section
variable {P:Program} {Q:Exit→Act→World→Prop} {ops:Array Oper} {o:Oper} {a:Act} {w w':World} {n:Nat} {σ:Nat→Value}
theorem Tm.step {i d:Nat} {op:Op} {rest:List Nat} {v:Value} (bt:Tm a n σ) (hi:ops[i]? =some o) (ho:aP o d op) (hd:d<n) (bW:(execOp (ev σ) o).run P w= .ok (.value v) w')
 (h: ∀a',Tm a' n (IX σ d v)→wpOps P ops Q rest a' w'):wpOps P ops Q (i::rest) a w:=by
 refine tQ hi ho.guard (v:=v) (w':=w') (by rw [bt.eval];exact bW) ?_
 rw [ho.dst]
 exact h _ (bt.put hd v)
theorem bI {d:Nat} {x:Operand} {e:Operand→Value} (ho:aP o d (.move x)) (w:World):(execOp e o).run P w= .ok (.value (e x)) w:=by simp [execOp,ho.op]
theorem jU {d:Nat} {x:Operand} {e:Operand→Value} (ho:aP o d (.assign x)) (w:World):(execOp e o).run P w= .ok (.value (e x)) w:=by simp [execOp,ho.op]
theorem xe {d:Nat} {t el:TypeId} {x:Operand} {e:Operand→Value} {ad:Option Addr} {m c:Nat} (ho:aP o d (.call {callee:= .builtin .len,args:= #[x],argTypes:= #[t]})) (hu:P.underlying t=some (.slice el)) (hx:e x= .slice ad m c) (w:World):
 (execOp e o).run P w= .ok (.value (.int .i64 m)) w:=by simp [execOp,ho.op,resolve,invoke,builtin,hx,Builtin.len_,goInt,run_underlying hu]
theorem Nz {d:Nat} {t el:TypeId} {x:Operand} {e:Operand→Value} {ad:Option Addr} {m c:Nat} (ho:aP o d (.call {callee:= .builtin .cap,args:= #[x],argTypes:= #[t]})) (hu:P.underlying t=some (.slice el)) (hx:e x= .slice ad m c) (w:World):
 (execOp e o).run P w= .ok (.value (.int .i64 c)) w:=by simp [execOp,ho.op,resolve,invoke,builtin,hx,Builtin.cap_,goInt,run_underlying hu]
theorem zP {d:Nat} {op:BinOp} {t t':TypeId} {x y:Operand} {e:Operand→Value} {k:IntKind} {p q:Int} {v:Value} (ho:aP o d (.binOp op t x y t')) (hx:e x= .int k p) (hy:e y= .int k q)
 (hv: ∀w:World,(Go.binOp op t (.int k p) (.int k q)).run P w= .ok v w) (w:World):(execOp e o).run P w= .ok (.value v) w:=by
 have hg:(eqGuard op t x y (.int k p) (.int k q)).run P w= .ok () w:=by cases op<;>rfl
 simp [execOp,ho.op,hx,hy,hg,hv]
theorem xf {d:Nat} {t t':TypeId} {x y:Operand} {e:Operand→Value} {p q:Int} (ho:aP o d (.binOp .eql t x y t')) (hx:e x= .int .i64 p) (hy:e y= .int .i64 q) (w:World):
 (execOp e o).run P w= .ok (.value (.bool (decide (p=q)))) w:=zP ho hx hy (fun w=>by simp [Go.binOp,Op.intCmp];rfl) w
theorem JW {d:Nat} {t t':TypeId} {x y:Operand} {e:Operand→Value} {p q:Int} (ho:aP o d (.binOp .gtr t x y t')) (hx:e x= .int .i64 p) (hy:e y= .int .i64 q) (w:World):
 (execOp e o).run P w= .ok (.value (.bool (decide (q<p)))) w:=zP ho hx hy (fun w=>by simp [Go.binOp,Op.intCmp]) w
theorem qG {d:Nat} {t t':TypeId} {x y:Operand} {e:Operand→Value} {p q:Nat} (ho:aP o d (.binOp .add t x y t')) (hx:e x= .int .i64 p) (hy:e y= .int .i64 q) (hl:p+q<2^63) (w:World):
 (execOp e o).run P w= .ok (.value (.int .i64 ((p+q:Nat):Int))) w:=zP ho hx hy (fun w=>by
  have:IntKind.i64.wrap ((p:Int)+(q:Int))=((p+q:Nat):Int):=by rw [IntKind.wrap_i64];omega
  simp [Go.binOp,Op.intArith,this]) w
theorem RX {d:Nat} {t t':TypeId} {x y:Operand} {e:Operand→Value} {p q:Nat} (ho:aP o d (.binOp .sub t x y t')) (hx:e x= .int .i64 p) (hy:e y= .int .i64 q) (hl:p<2^63) (hq:q≤p) (w:World):
 (execOp e o).run P w= .ok (.value (.int .i64 ((p-q:Nat):Int))) w:=zP ho hx hy (fun w=>by
  have:IntKind.i64.wrap ((p:Int)-(q:Int))=((p-q:Nat):Int):=by rw [IntKind.wrap_i64];omega
  simp [Go.binOp,Op.intArith,this]) w
theorem UQ {d:Nat} {t:TypeId} {x:Operand} {e:Operand→Value} {b:Bool} (ho:aP o d (.unOp .not t x)) (hx:e x= .bool b) (w:World):
 (execOp e o).run P w= .ok (.value (.bool (!b))) w:=by simp [execOp,ho.op,hx,Op.unary]
theorem zQ {d:Nat} {t el:TypeId} {x y:Operand} {e:Operand→Value} {ad:Option Addr} {m c l size:Nat} {i:TypeInfo} (ho:aP o d (.slice t x (some y) none none)) (hu:P.underlying t=some (.slice el)) (hi:P.info? el=some i) (hs:i.size=size)
 (hx:e x= .slice ad m c) (hy:e y= .int .i64 l) (hl:l≤m) (w:World):(execOp e o).run P w= .ok (.value (.slice (if c=l then ad else ad.map (·.add (l *size))) (m-l) (c-l))) w:=by
 simp [execOp,ho.op,Instr.sliceAt,Instr.slice,run_underlying hu,hx,hy,Go.sizeOf,typeInfo,hi,hs,Instr.sliceBounds,Instr.sliceBound,asIntOf,hl]
theorem JX {d:Nat} {t el:TypeId} {x y:Operand} {e:Operand→Value} {ad:Option Addr} {m c l size:Nat} {i:TypeInfo} (ho:aP o d (.slice t x none (some y) none)) (hu:P.underlying t=some (.slice el)) (hi:P.info? el=some i) (hs:i.size=size)
 (hx:e x= .slice ad m c) (hy:e y= .int .i64 l) (hl:l≤c) (w:World):(execOp e o).run P w= .ok (.value (.slice ad l c)) w:=by
 have h0: ∀q:Addr,q.add 0=q:=fun q=>by obtain ⟨b,o,s⟩:=q;cases s<;>simp [Addr.add]
 have:(if c=0 then ad else ad.map (·.add (0 *size)))=ad:=by
  cases ad<;>simp [h0]
 simp [execOp,ho.op,Instr.sliceAt,Instr.slice,run_underlying hu,hx,hy,Go.sizeOf,typeInfo,hi,hs,Instr.sliceBounds,Instr.sliceBound,asIntOf,hl]
 cases ad<;>simp [h0]
theorem nW {d:Nat} {t el:TypeId} {x y:Operand} {e:Operand→Value} {g m c l size:Nat} {i:TypeInfo} (ho:aP o d (.slice t x (some y) none none)) (hu:P.underlying t=some (.slice el)) (hi:P.info? el=some i) (hs:i.size=size)
 (hx:e x= .slice (some ⟨g,0,none⟩) m c) (hy:e y= .int .i64 l) (hl:l≤m) (hc:l<c) (w:World):(execOp e o).run P w= .ok (.value (.slice (some ⟨g,l *size,none⟩) (m-l) (c-l))) w:=by
 rw [zQ ho hu hi hs hx hy hl w]
 have: ¬c=l:=by omega
 have h0:(⟨g,0,none⟩:Addr).add (l *size)=⟨g,l *size,none⟩:=by
  have:=Addr.add_mid g 0 (l *size)
  rwa [Nat.zero_add] at this
 simp [this,h0]
theorem UR {d:Nat} {x y:Operand} {t1 t2:TypeId} {f:FuncId} {e:Operand→Value} {v1 v2 v:Value} (ho:aP o d (.call {callee:= .value (.func f),args:= #[x,y],argTypes:= #[t1,t2]})) (he:e (.func f)= .func (.func f) #[] #[]) (hx:e x=v1) (hy:e y=v2)
 (h:(callFunc f #[v1,v2]).run P w= .ok (.value v) w'):(execOp e o).run P w= .ok (.value v) w':=by
 simp [execOp,ho.op,resolve,invoke,builtin,he,hx,hy,Deferred.ofValue,h]
theorem JY {d:Nat} {x y:Operand} {t1 t2:TypeId} {e:Operand→Value} {v1 v2 v:Value} (ho:aP o d (.call {callee:= .builtin .append,args:= #[x,y],argTypes:= #[t1,t2]})) (hx:e x=v1) (hy:e y=v2)
 (h:(Builtin.append_ #[t1,t2] o.type #[v1,v2]).run P w= .ok v w'):(execOp e o).run P w= .ok (.value v) w':=by
 simp [execOp,ho.op,resolve,invoke,builtin,hx,hy,h]
theorem zS {d:Nat} {x y:Operand} {t1 t2:TypeId} {e:Operand→Value} {v1 v2 v:Value} (ho:aP o d (.call {callee:= .builtin .copy,args:= #[x,y],argTypes:= #[t1,t2]})) (hx:e x=v1) (hy:e y=v2)
 (h:(Builtin.copy_ #[t1,t2] o.type #[v1,v2]).run P w= .ok v w'):(execOp e o).run P w= .ok (.value v) w':=by
 simp [execOp,ho.op,resolve,invoke,builtin,hx,hy,h]
theorem oe {dT sT ty elem t:TypeId} {g o US XI nT uX size k:Nat} {a:Addr} {eZ:Array Value} {cs:List Value} {i:TypeInfo} (hu:P.underlying dT=some (.slice elem)) (hi:P.info? elem=some i) (hs:i.size=size)
 (hg:w.heap[g]? =some (.cells eZ t (0,0))) (hk:Nat.min nT US=k) (hn:cs.length=k *size)
 (vF: ∀(j:Nat) v,cs[j]? =some v→w.cell? (a.add j)=some v) (HH:o+cs.length≤eZ.size) (h1: ∀v∈cs,v.oneCell'=true):
 (Builtin.copy_ #[dT,sT] ty #[.slice (some ⟨g,o,none⟩) US XI,.slice (some a) nT uX]).run P w=
  .ok (goInt k) (w.setRow g (eZ.toList.take o++cs++eZ.toList.drop (o+cs.length)).toArray):=by
 have hl:=run_loadCells_list (P:=P) w a cs vF
 have iw:=run_storeCells_at P g o t cs 0 eZ w hg (by simpa using HH) h1
 simp only [Nat.add_zero] at iw
 simp [Builtin.copy_,run_underlying hu,Builtin.lenOf,Builtin.firstCells,Go.sizeOf,typeInfo,hi,hs,hk,←hn,hl,iw]
def JZ (ops:Array Oper):Nat→Nat→Array Bool→Bool
 |0,i,listed=>(Region.ready .any ops (listed.setIfInBounds i true)).isEmpty&&(Region.ready .any ops listed==[i])
 |k+1,i,listed=>Region.free .any ops listed i&&(Region.ready .any ops listed).contains i&&JZ ops k (i+1) (listed.setIfInBounds i true)
def NA (ops:Array Oper):Bool:=Region.noSelect ops&&Nat.blt 0 ops.size&&JZ ops (ops.size-1) 0 (Array.replicate ops.size false)
structure NB (ops:Array Oper) (k i:Nat) (listed:Array Bool):Prop where
 sel:Region.noSelect ops=true
 ord:JZ ops k i listed=true
theorem Tm.draw {N:Act→World→Prop} {i d:Nat} {op:Op} {k:Nat} {listed:Array Bool} {v:Value} (bt:Tm a n σ) (hi:ops[i]? =some o) (ho:aP o d op) (hd:d<n) (hb:NB ops (k+1) i listed) (bW: ∀w,(execOp (ev σ) o).run P w= .ok (.value v) w)
 (h: ∀a',Tm a' n (IX σ d v)→NB ops k (i+1) (listed.setIfInBounds i true)→wpAny P .any ops (ra N) (k+1) (listed.setIfInBounds i true) a' w):wpAny P .any ops (ra N) (k+2) listed a w:=by
 obtain ⟨hs,hb⟩:=hb
 simp only [JZ,Bool.and_eq_true] at hb
 obtain ⟨⟨h1,h2⟩,h3⟩:=hb
 refine wpAny_take hi hs h1 h2 (fun c a w hq=>hq.elim) (v:=v) (.inl ⟨by simp [Region.wanted,ho.guard],fun w=>by rw [bt.eval];exact bW w⟩) ?_
 rw [ho.dst]
 exact h _ (bt.put hd v) ⟨hs,h3⟩
theorem Tm.last {N:Act→World→Prop} {i d:Nat} {op:Op} {listed:Array Bool} {v:Value} (bt:Tm a n σ) (hi:ops[i]? =some o) (ho:aP o d op) (hd:d<n) (hb:NB ops 0 i listed) (bW:(execOp (ev σ) o).run P w= .ok (.value v) w')
 (h: ∀a',Tm a' n (IX σ d v)→N a' w'):wpAny P .any ops (ra N) 1 listed a w:=by
 obtain ⟨hs,hb⟩:=hb
 simp only [JZ,Bool.and_eq_true,List.isEmpty_iff,beq_iff_eq] at hb
 obtain ⟨h1,h2⟩:=hb
 refine wpAny_all h2 (by simp) ?_
 intro j hj
 simp only [List.mem_singleton] at hj
 subst hj
 unfold wpOp
 simp only [hi,Region.wanted,ho.guard,if_true]
 left
 unfold Oper.wp
 rw [bt.eval,bW,Oper.upon_value,ho.dst]
 exact wpAny_done h1 (h _ (bt.put hd v)) 0
theorem NC {id k:Nat} (hm:P.follows .mixedOrders=true) (hb:NA ops=true) (hk:ops.size=k+1) (h:NB ops k 0 (Array.replicate (k+1) false)→wpAny P .any ops (ra fun a w=>Q .normal a w) (k+1) (Array.replicate (k+1) false) a {w with drawn:=w.drawn+1}):
 (Code.region id ops true).wp P Q a w:=by
 simp only [NA,Bool.and_eq_true] at hb
 rw [hk] at hb
 refine Code.wp_mono ?_ (wp_region_any (Q:=ra fun a w=>Q .normal a w) hm (by rw [hk];exact h ⟨hb.1.1,hb.2⟩))
 intro x a' w' hx
 cases x<;>first|exact hx|exact hx.elim
theorem Tm.cond {x:Operand} {b:Bool} {A B:Code} (bt:Tm a n σ) (hx:ev σ x= .bool b) (h:(if b then A else B).wp P Q a w):(Code.cond x A B).wp P Q a w:=by
 refine wp_cond (t:=b) (by rw [bt.eval];exact hx) h
end
end Dn
/-
  slices.Insert of the library, walked. Printed by a program. Conditions: none.
-/
set_option linter.unusedSimpArgs false
set_option linter.unusedVariables false
namespace Dn
open Go
def tR (r:Nat→Nat) (o:Nat→Oper) (tail:Code):Code:=
 .seq (.region (r 0) #[o 0] false) (.seq (.region (r 1) #[o 1,o 2,o 3] false) (.seq (.region (r 2) #[o 4,o 5,o 6] false) (.seq (.seq (.region (r 3) #[o 7,o 8] false) (.cond (.tmp 16) (.seq (.region (r 4) #[o 9,o 10] false) .ret) .skip)) (.seq (.region (r 5) #[o 11,o 12,o 13] false) (.seq (.seq (.region (r 6) #[o 14,o 15,o 16] false) (.cond (.tmp 22) (.seq (.region (r 7) #[o 17,o 18,o 19,o 20] false) .ret) .skip)) (.seq (.seq (.region (r 8) #[o 21,o 22,o 23,o 24,o 25,o 26] false) (.cond (.tmp 31) (.seq (.region (r 9) #[o 27,o 28,o 29,o 30,o 31,o 32,o 33,o 34,o 35,o 36] false) (.seq (.region (r 10) #[o 37,o 38,o 39,o 40,o 41] false) (.seq (.region (r 11) #[o 42,o 43,o 44,o 45,o 46,o 47,o 48,o 49,o 50] true) (.seq (.region (r 12) #[o 51,o 52] false) .ret)))) .skip)) (.seq (.region (r 13) #[o 53,o 54,o 55,o 56,o 57,o 58] false) (.seq (.seq (.region (r 14) #[o 59,o 60,o 61,o 62,o 63,o 64,o 65,o 66] false) (.cond (.tmp 68) (.seq (.region (r 15) #[o 67,o 68,o 69,o 70,o 71,o 72,o 73,o 74,o 75] true) (.seq (.region (r 16) #[o 76,o 77,o 78,o 79,o 80] false) (.seq (.region (r 17) #[o 81,o 82] false) .ret))) .skip)) tail))))))))
structure XJ (t ti tb fo:Nat) (o:Nat→Oper):Prop where
 h0:aP (o 0) 6 (.assign (.const (.slice none 0 0)))
 h1:aP (o 1) 10 (.move (.tmp 0))
 h2:aP (o 2) 11 (.move (.tmp 1))
 h3:aP (o 3) 12 (.slice t (.tmp 10) (some (.tmp 11)) none none)
 h4:aP (o 4) 13 (.move (.tmp 2))
 h5:aP (o 5) 14 (.call {callee:= .builtin .len,args:= #[.tmp 13],argTypes:= #[t]})
 h6:aP (o 6) 7 (.assign (.tmp 14))
 h7:aP (o 7) 15 (.move (.tmp 7))
 h8:aP (o 8) 16 (.binOp .eql ti (.tmp 15) (.const (.int .i64 0)) ti)
 h9:aP (o 9) 17 (.move (.tmp 0))
 Xr:aP (o 10) 6 (.assign (.tmp 17))
 TD:aP (o 11) 18 (.move (.tmp 0))
 UT:aP (o 12) 19 (.call {callee:= .builtin .len,args:= #[.tmp 18],argTypes:= #[t]})
 UU:aP (o 13) 8 (.assign (.tmp 19))
 UW:aP (o 14) 20 (.move (.tmp 1))
 UX:aP (o 15) 21 (.move (.tmp 8))
 UY:aP (o 16) 22 (.binOp .eql ti (.tmp 20) (.tmp 21) ti)
 h17:aP (o 17) 23 (.move (.tmp 0))
 h18:aP (o 18) 24 (.move (.tmp 2))
 h19:aP (o 19) 25 (.call {callee:= .builtin .append,args:= #[.tmp 23,.tmp 24],argTypes:= #[t,t]})
 h20:aP (o 20) 6 (.assign (.tmp 25))
 Zm:aP (o 21) 26 (.move (.tmp 8))
 Zn:aP (o 22) 27 (.move (.tmp 7))
 Zo:aP (o 23) 28 (.binOp .add ti (.tmp 26) (.tmp 27) ti)
 Zp:aP (o 24) 29 (.move (.tmp 0))
 Zq:aP (o 25) 30 (.call {callee:= .builtin .cap,args:= #[.tmp 29],argTypes:= #[t]})
 Zr:aP (o 26) 31 (.binOp .gtr ti (.tmp 28) (.tmp 30) ti)
 h27:aP (o 27) 32 (.move (.tmp 0))
 h28:aP (o 28) 33 (.move (.tmp 1))
 h29:aP (o 29) 34 (.slice t (.tmp 32) none (some (.tmp 33)) none)
 h30:aP (o 30) 35 (.move (.tmp 8))
 h31:aP (o 31) 36 (.move (.tmp 7))
 h32:aP (o 32) 37 (.binOp .add ti (.tmp 35) (.tmp 36) ti)
 h33:aP (o 33) 38 (.move (.tmp 1))
 h34:aP (o 34) 39 (.binOp .sub ti (.tmp 37) (.tmp 38) ti)
 h35:aP (o 35) 40 (.call {callee:= .builtin .append,args:= #[.tmp 34,.tmp 39],argTypes:= #[t,ti]})
 h36:aP (o 36) 9 (.assign (.tmp 40))
 h37:aP (o 37) 41 (.move (.tmp 9))
 h38:aP (o 38) 42 (.move (.tmp 1))
 h39:aP (o 39) 43 (.slice t (.tmp 41) (some (.tmp 42)) none none)
 h40:aP (o 40) 44 (.move (.tmp 2))
 h41:aP (o 41) 45 (.call {callee:= .builtin .copy,args:= #[.tmp 43,.tmp 44],argTypes:= #[t,t]})
 h42:aP (o 42) 46 (.move (.tmp 9))
 h43:aP (o 43) 47 (.move (.tmp 1))
 h44:aP (o 44) 48 (.move (.tmp 7))
 h45:aP (o 45) 49 (.binOp .add ti (.tmp 47) (.tmp 48) ti)
 h46:aP (o 46) 50 (.slice t (.tmp 46) (some (.tmp 49)) none none)
 h47:aP (o 47) 51 (.move (.tmp 0))
 h48:aP (o 48) 52 (.move (.tmp 1))
 h49:aP (o 49) 53 (.slice t (.tmp 51) (some (.tmp 52)) none none)
 h50:aP (o 50) 54 (.call {callee:= .builtin .copy,args:= #[.tmp 50,.tmp 53],argTypes:= #[t,t]})
 h51:aP (o 51) 55 (.move (.tmp 9))
 h52:aP (o 52) 6 (.assign (.tmp 55))
 h53:aP (o 53) 56 (.move (.tmp 0))
 h54:aP (o 54) 57 (.move (.tmp 8))
 h55:aP (o 55) 58 (.move (.tmp 7))
 h56:aP (o 56) 59 (.binOp .add ti (.tmp 57) (.tmp 58) ti)
 h57:aP (o 57) 60 (.slice t (.tmp 56) none (some (.tmp 59)) none)
 h58:aP (o 58) 0 (.assign (.tmp 60))
 h59:aP (o 59) 61 (.move (.tmp 2))
 h60:aP (o 60) 62 (.move (.tmp 0))
 h61:aP (o 61) 63 (.move (.tmp 1))
 h62:aP (o 62) 64 (.move (.tmp 7))
 h63:aP (o 63) 65 (.binOp .add ti (.tmp 63) (.tmp 64) ti)
 h64:aP (o 64) 66 (.slice t (.tmp 62) (some (.tmp 65)) none none)
 h65:aP (o 65) 67 (.call {callee:= .value (.func fo),args:= #[.tmp 61,.tmp 66],argTypes:= #[t,t]})
 h66:aP (o 66) 68 (.unOp .not tb (.tmp 67))
 h67:aP (o 67) 69 (.move (.tmp 0))
 h68:aP (o 68) 70 (.move (.tmp 1))
 h69:aP (o 69) 71 (.move (.tmp 7))
 h70:aP (o 70) 72 (.binOp .add ti (.tmp 70) (.tmp 71) ti)
 h71:aP (o 71) 73 (.slice t (.tmp 69) (some (.tmp 72)) none none)
 h72:aP (o 72) 74 (.move (.tmp 0))
 h73:aP (o 73) 75 (.move (.tmp 1))
 h74:aP (o 74) 76 (.slice t (.tmp 74) (some (.tmp 75)) none none)
 h75:aP (o 75) 77 (.call {callee:= .builtin .copy,args:= #[.tmp 73,.tmp 76],argTypes:= #[t,t]})
 h76:aP (o 76) 78 (.move (.tmp 0))
 h77:aP (o 77) 79 (.move (.tmp 1))
 h78:aP (o 78) 80 (.slice t (.tmp 78) (some (.tmp 79)) none none)
 h79:aP (o 79) 81 (.move (.tmp 2))
 h80:aP (o 80) 82 (.call {callee:= .builtin .copy,args:= #[.tmp 80,.tmp 81],argTypes:= #[t,t]})
 h81:aP (o 81) 83 (.move (.tmp 0))
 h82:aP (o 82) 6 (.assign (.tmp 83))
 d11:NA #[o 42,o 43,o 44,o 45,o 46,o 47,o 48,o 49,o 50]=true
 d15:NA #[o 67,o 68,o 69,o 70,o 71,o 72,o 73,o 74,o 75]=true
structure GP (P:Program) (f t ti tb el fo:Nat) (fn:Func) (r:Nat→Nat) (o:Nat→Oper) (tail:Code):Prop where
 pos:P.funcs[f]? =some fn
 name:(fn.name== "runtime.NumGoroutine")=false
 tmps:fn.ntmps=95
 res:fn.results= #[.tmp 6]
 body:fn.body=some (tR r o tail)
 ops:XJ t ti tb fo o
 mix:P.follows .mixedOrders=true
 GQ:P.underlying t=some (.slice el)
section
variable {P:Program} {f t ti tb el fo:Nat} {fn:Func} {r:Nat→Nat} {o:Nat→Oper} {tail:Code} {ie:TypeInfo} {size n m c c2 i g g2:Nat} {ad:Option Addr} {w:World}
theorem Ib {a:Act} {w:World} {σ:Nat→Value} {R:Ending→World→Prop} {v:Value} (hr:fn.results= #[.tmp 6]) (bt:Tm a 95 σ) (h6:σ 6=v) (h:R (.returned v) w):bodyPost P fn R .ret a w:=by
 refine ⟨bt.defers,v,?_,h⟩
 have h2:a.tmps[6]?.getD undef=v:=by have:=bt.get 6;rw [h6] at this;simpa using this
 simp [results,hr,h2]
theorem UZ (hf:GP P f t ti tb el fo fn r o tail) (zf:P.info? el=some ie) (CA:ie.size=size) (hm:0<m) (hn:n≤c) (hc:c<2^63) (Y9:n+m<2^63) (hi:i=n) {v:Value} {w1:World} (bW: ∀ty,(Builtin.append_ #[t,t] ty #[.slice ad n c,.slice (some ⟨g2,0,none⟩) m c2]).run P w= .ok v w1)
 :Calls P f #[.slice ad n c,.int .i64 ((i:Nat):Int),.slice (some ⟨g2,0,none⟩) m c2] w fun x w'=>x= .returned v∧w'=w1:=by
 refine calls_of_wp hf.pos hf.body ?_
 rw [hf.tmps]
 have key: ∀a:Act,Tm a 95 (IX (IX (IX (fun _=>undef) 0 (.slice ad n c)) 1 (.int .i64 ((i:Nat):Int))) 2 (.slice (some ⟨g2,0,none⟩) m c2))→(tR r o tail).wp P (bodyPost P fn fun x w'=>x= .returned v∧w'=w1) a w:=by
  intro a bt
  unfold tR
  refine wp_seq (wp_region ?_)
  rw [show List.range (#[o 0]:Array Oper).size=[0] from rfl]
  refine bt.step (v:= .slice none 0 0) rfl hf.ops.h0 (by decide) (jU hf.ops.h0 _) (fun a bt=> ?_)
  refine wp_seq (wp_region ?_)
  rw [show List.range (#[o 1,o 2,o 3]:Array Oper).size=[0,1,2] from rfl]
  refine bt.step (v:= .slice ad n c) rfl hf.ops.h1 (by decide) (bI hf.ops.h1 _) (fun a bt=> ?_)
  refine bt.step (v:= .int .i64 ((i:Nat):Int)) rfl hf.ops.h2 (by decide) (bI hf.ops.h2 _) (fun a bt=> ?_)
  refine bt.step (v:= .slice (if c=i then ad else (ad:Option Addr).map (·.add (i *size))) (n-i) (c-i)) rfl hf.ops.h3 (by decide) (zQ hf.ops.h3 hf.GQ zf CA rfl rfl (by omega) _) (fun a bt=> ?_)
  refine wp_seq (wp_region ?_)
  rw [show List.range (#[o 4,o 5,o 6]:Array Oper).size=[0,1,2] from rfl]
  refine bt.step (v:= .slice (some ⟨g2,0,none⟩) m c2) rfl hf.ops.h4 (by decide) (bI hf.ops.h4 _) (fun a bt=> ?_)
  refine bt.step (v:= .int .i64 ((m:Nat):Int)) rfl hf.ops.h5 (by decide) (xe hf.ops.h5 hf.GQ rfl _) (fun a bt=> ?_)
  refine bt.step (v:= .int .i64 ((m:Nat):Int)) rfl hf.ops.h6 (by decide) (jU hf.ops.h6 _) (fun a bt=> ?_)
  refine wp_seq ?_
  refine wp_seq (wp_region ?_)
  rw [show List.range (#[o 7,o 8]:Array Oper).size=[0,1] from rfl]
  refine bt.step (v:= .int .i64 ((m:Nat):Int)) rfl hf.ops.h7 (by decide) (bI hf.ops.h7 _) (fun a bt=> ?_)
  refine bt.step (v:= .bool (decide (((m:Nat):Int)=((0:Nat):Int)))) rfl hf.ops.h8 (by decide) (xf hf.ops.h8 rfl rfl _) (fun a bt=> ?_)
  refine bt.cond (b:=false) (by show Value.bool (decide (((m:Nat):Int)=((0:Nat):Int)))=_;rw [decide_eq_false (by omega)]) ?_
  simp only [Bool.false_eq_true,if_false]
  refine wp_skip ?_
  refine wp_seq (wp_region ?_)
  rw [show List.range (#[o 11,o 12,o 13]:Array Oper).size=[0,1,2] from rfl]
  refine bt.step (v:= .slice ad n c) rfl hf.ops.TD (by decide) (bI hf.ops.TD _) (fun a bt=> ?_)
  refine bt.step (v:= .int .i64 ((n:Nat):Int)) rfl hf.ops.UT (by decide) (xe hf.ops.UT hf.GQ rfl _) (fun a bt=> ?_)
  refine bt.step (v:= .int .i64 ((n:Nat):Int)) rfl hf.ops.UU (by decide) (jU hf.ops.UU _) (fun a bt=> ?_)
  refine wp_seq ?_
  refine wp_seq (wp_region ?_)
  rw [show List.range (#[o 14,o 15,o 16]:Array Oper).size=[0,1,2] from rfl]
  refine bt.step (v:= .int .i64 ((i:Nat):Int)) rfl hf.ops.UW (by decide) (bI hf.ops.UW _) (fun a bt=> ?_)
  refine bt.step (v:= .int .i64 ((n:Nat):Int)) rfl hf.ops.UX (by decide) (bI hf.ops.UX _) (fun a bt=> ?_)
  refine bt.step (v:= .bool (decide (((i:Nat):Int)=((n:Nat):Int)))) rfl hf.ops.UY (by decide) (xf hf.ops.UY rfl rfl _) (fun a bt=> ?_)
  refine bt.cond (b:=true) (by show Value.bool (decide (((i:Nat):Int)=((n:Nat):Int)))=_;rw [decide_eq_true (by omega)]) ?_
  simp only [if_true]
  refine wp_seq (wp_region ?_)
  rw [show List.range (#[o 17,o 18,o 19,o 20]:Array Oper).size=[0,1,2,3] from rfl]
  refine bt.step (v:= .slice ad n c) rfl hf.ops.h17 (by decide) (bI hf.ops.h17 _) (fun a bt=> ?_)
  refine bt.step (v:= .slice (some ⟨g2,0,none⟩) m c2) rfl hf.ops.h18 (by decide) (bI hf.ops.h18 _) (fun a bt=> ?_)
  refine bt.step (v:=v) rfl hf.ops.h19 (by decide) (JY hf.ops.h19 rfl rfl (bW _)) (fun a bt=> ?_)
  refine bt.step (v:=v) rfl hf.ops.h20 (by decide) (jU hf.ops.h20 _) (fun a bt=> ?_)
  refine wp_ret ?_
  show bodyPost P fn (fun x wq=>x= .returned (v)∧wq=w1) .ret a w1
  refine Ib hf.res bt (v:=v) rfl ?_
  exact ⟨rfl,rfl⟩
 exact key _ (tm3 _ _ _ 92)
theorem RY (hf:GP P f t ti tb el fo fn r o tail) (zf:P.info? el=some ie) (CA:ie.size=size) (hm:0<m) (hn:n≤c) (hc:c<2^63) (Y9:n+m<2^63) (hi:i<n) (rB:c<n+m) {g9 G:Nat} {v1 v2:Value} {w1 w2 w3:World} (hG:n+m≤G) (hA: ∀ty,(Builtin.append_ #[t,ti] ty #[.slice (some ⟨g,0,none⟩) i c,.int .i64 ((n+m-i:Nat):Int)]).run P w= .ok (.slice (some ⟨g9,0,none⟩) (n+m) G) w1)
 (hB: ∀ty,(Builtin.copy_ #[t,t] ty #[.slice (some ⟨g9,i *size,none⟩) (n+m-i) (G-i),.slice (some ⟨g2,0,none⟩) m c2]).run P w1= .ok v1 w2)
 (hC: ∀ty,(Builtin.copy_ #[t,t] ty #[.slice (some ⟨g9,(i+m) *size,none⟩) (n+m-(i+m)) (G-(i+m)),.slice (some ⟨g,i *size,none⟩) (n-i) (c-i)]).run P {w2 with drawn:=w2.drawn+1}= .ok v2 w3)
 :Calls P f #[.slice (some ⟨g,0,none⟩) n c,.int .i64 ((i:Nat):Int),.slice (some ⟨g2,0,none⟩) m c2] w fun x w'=>x= .returned (.slice (some ⟨g9,0,none⟩) (n+m) G)∧w'=w3:=by
 refine calls_of_wp hf.pos hf.body ?_
 rw [hf.tmps]
 have key: ∀a:Act,Tm a 95 (IX (IX (IX (fun _=>undef) 0 (.slice (some ⟨g,0,none⟩) n c)) 1 (.int .i64 ((i:Nat):Int))) 2 (.slice (some ⟨g2,0,none⟩) m c2))→(tR r o tail).wp P (bodyPost P fn fun x w'=>x= .returned (.slice (some ⟨g9,0,none⟩) (n+m) G)∧w'=w3) a w:=by
  intro a bt
  unfold tR
  refine wp_seq (wp_region ?_)
  rw [show List.range (#[o 0]:Array Oper).size=[0] from rfl]
  refine bt.step (v:= .slice none 0 0) rfl hf.ops.h0 (by decide) (jU hf.ops.h0 _) (fun a bt=> ?_)
  refine wp_seq (wp_region ?_)
  rw [show List.range (#[o 1,o 2,o 3]:Array Oper).size=[0,1,2] from rfl]
  refine bt.step (v:= .slice (some ⟨g,0,none⟩) n c) rfl hf.ops.h1 (by decide) (bI hf.ops.h1 _) (fun a bt=> ?_)
  refine bt.step (v:= .int .i64 ((i:Nat):Int)) rfl hf.ops.h2 (by decide) (bI hf.ops.h2 _) (fun a bt=> ?_)
  refine bt.step (v:= .slice (if c=i then (some ⟨g,0,none⟩) else ((some ⟨g,0,none⟩):Option Addr).map (·.add (i *size))) (n-i) (c-i)) rfl hf.ops.h3 (by decide) (zQ hf.ops.h3 hf.GQ zf CA rfl rfl (by omega) _) (fun a bt=> ?_)
  refine wp_seq (wp_region ?_)
  rw [show List.range (#[o 4,o 5,o 6]:Array Oper).size=[0,1,2] from rfl]
  refine bt.step (v:= .slice (some ⟨g2,0,none⟩) m c2) rfl hf.ops.h4 (by decide) (bI hf.ops.h4 _) (fun a bt=> ?_)
  refine bt.step (v:= .int .i64 ((m:Nat):Int)) rfl hf.ops.h5 (by decide) (xe hf.ops.h5 hf.GQ rfl _) (fun a bt=> ?_)
  refine bt.step (v:= .int .i64 ((m:Nat):Int)) rfl hf.ops.h6 (by decide) (jU hf.ops.h6 _) (fun a bt=> ?_)
  refine wp_seq ?_
  refine wp_seq (wp_region ?_)
  rw [show List.range (#[o 7,o 8]:Array Oper).size=[0,1] from rfl]
  refine bt.step (v:= .int .i64 ((m:Nat):Int)) rfl hf.ops.h7 (by decide) (bI hf.ops.h7 _) (fun a bt=> ?_)
  refine bt.step (v:= .bool (decide (((m:Nat):Int)=((0:Nat):Int)))) rfl hf.ops.h8 (by decide) (xf hf.ops.h8 rfl rfl _) (fun a bt=> ?_)
  refine bt.cond (b:=false) (by show Value.bool (decide (((m:Nat):Int)=((0:Nat):Int)))=_;rw [decide_eq_false (by omega)]) ?_
  simp only [Bool.false_eq_true,if_false]
  refine wp_skip ?_
  refine wp_seq (wp_region ?_)
  rw [show List.range (#[o 11,o 12,o 13]:Array Oper).size=[0,1,2] from rfl]
  refine bt.step (v:= .slice (some ⟨g,0,none⟩) n c) rfl hf.ops.TD (by decide) (bI hf.ops.TD _) (fun a bt=> ?_)
  refine bt.step (v:= .int .i64 ((n:Nat):Int)) rfl hf.ops.UT (by decide) (xe hf.ops.UT hf.GQ rfl _) (fun a bt=> ?_)
  refine bt.step (v:= .int .i64 ((n:Nat):Int)) rfl hf.ops.UU (by decide) (jU hf.ops.UU _) (fun a bt=> ?_)
  refine wp_seq ?_
  refine wp_seq (wp_region ?_)
  rw [show List.range (#[o 14,o 15,o 16]:Array Oper).size=[0,1,2] from rfl]
  refine bt.step (v:= .int .i64 ((i:Nat):Int)) rfl hf.ops.UW (by decide) (bI hf.ops.UW _) (fun a bt=> ?_)
  refine bt.step (v:= .int .i64 ((n:Nat):Int)) rfl hf.ops.UX (by decide) (bI hf.ops.UX _) (fun a bt=> ?_)
  refine bt.step (v:= .bool (decide (((i:Nat):Int)=((n:Nat):Int)))) rfl hf.ops.UY (by decide) (xf hf.ops.UY rfl rfl _) (fun a bt=> ?_)
  refine bt.cond (b:=false) (by show Value.bool (decide (((i:Nat):Int)=((n:Nat):Int)))=_;rw [decide_eq_false (by omega)]) ?_
  simp only [Bool.false_eq_true,if_false]
  refine wp_skip ?_
  refine wp_seq ?_
  refine wp_seq (wp_region ?_)
  rw [show List.range (#[o 21,o 22,o 23,o 24,o 25,o 26]:Array Oper).size=[0,1,2,3,4,5] from rfl]
  refine bt.step (v:= .int .i64 ((n:Nat):Int)) rfl hf.ops.Zm (by decide) (bI hf.ops.Zm _) (fun a bt=> ?_)
  refine bt.step (v:= .int .i64 ((m:Nat):Int)) rfl hf.ops.Zn (by decide) (bI hf.ops.Zn _) (fun a bt=> ?_)
  refine bt.step (v:= .int .i64 ((n+m:Nat):Int)) rfl hf.ops.Zo (by decide) (qG hf.ops.Zo rfl rfl (by omega) _) (fun a bt=> ?_)
  refine bt.step (v:= .slice (some ⟨g,0,none⟩) n c) rfl hf.ops.Zp (by decide) (bI hf.ops.Zp _) (fun a bt=> ?_)
  refine bt.step (v:= .int .i64 ((c:Nat):Int)) rfl hf.ops.Zq (by decide) (Nz hf.ops.Zq hf.GQ rfl _) (fun a bt=> ?_)
  refine bt.step (v:= .bool (decide (((c:Nat):Int)<(((n+m):Nat):Int)))) rfl hf.ops.Zr (by decide) (JW hf.ops.Zr rfl rfl _) (fun a bt=> ?_)
  refine bt.cond (b:=true) (by show Value.bool (decide (((c:Nat):Int)<((n+m:Nat):Int)))=_;rw [decide_eq_true (by omega)]) ?_
  simp only [if_true]
  refine wp_seq (wp_region ?_)
  rw [show List.range (#[o 27,o 28,o 29,o 30,o 31,o 32,o 33,o 34,o 35,o 36]:Array Oper).size=[0,1,2,3,4,5,6,7,8,9] from rfl]
  refine bt.step (v:= .slice (some ⟨g,0,none⟩) n c) rfl hf.ops.h27 (by decide) (bI hf.ops.h27 _) (fun a bt=> ?_)
  refine bt.step (v:= .int .i64 ((i:Nat):Int)) rfl hf.ops.h28 (by decide) (bI hf.ops.h28 _) (fun a bt=> ?_)
  refine bt.step (v:= .slice (some ⟨g,0,none⟩) i c) rfl hf.ops.h29 (by decide) (JX hf.ops.h29 hf.GQ zf CA rfl rfl (by omega) _) (fun a bt=> ?_)
  refine bt.step (v:= .int .i64 ((n:Nat):Int)) rfl hf.ops.h30 (by decide) (bI hf.ops.h30 _) (fun a bt=> ?_)
  refine bt.step (v:= .int .i64 ((m:Nat):Int)) rfl hf.ops.h31 (by decide) (bI hf.ops.h31 _) (fun a bt=> ?_)
  refine bt.step (v:= .int .i64 ((n+m:Nat):Int)) rfl hf.ops.h32 (by decide) (qG hf.ops.h32 rfl rfl (by omega) _) (fun a bt=> ?_)
  refine bt.step (v:= .int .i64 ((i:Nat):Int)) rfl hf.ops.h33 (by decide) (bI hf.ops.h33 _) (fun a bt=> ?_)
  refine bt.step (v:= .int .i64 (((n+m)-i:Nat):Int)) rfl hf.ops.h34 (by decide) (RX hf.ops.h34 rfl rfl (by omega) (by omega) _) (fun a bt=> ?_)
  refine bt.step (v:= .slice (some ⟨g9,0,none⟩) (n+m) G) rfl hf.ops.h35 (by decide) (JY hf.ops.h35 rfl rfl (hA _)) (fun a bt=> ?_)
  refine bt.step (v:= .slice (some ⟨g9,0,none⟩) (n+m) G) rfl hf.ops.h36 (by decide) (jU hf.ops.h36 _) (fun a bt=> ?_)
  refine wp_seq (wp_region ?_)
  rw [show List.range (#[o 37,o 38,o 39,o 40,o 41]:Array Oper).size=[0,1,2,3,4] from rfl]
  refine bt.step (v:= .slice (some ⟨g9,0,none⟩) (n+m) G) rfl hf.ops.h37 (by decide) (bI hf.ops.h37 _) (fun a bt=> ?_)
  refine bt.step (v:= .int .i64 ((i:Nat):Int)) rfl hf.ops.h38 (by decide) (bI hf.ops.h38 _) (fun a bt=> ?_)
  refine bt.step (v:= .slice (some ⟨g9,i *size,none⟩) (n+m-i) (G-i)) rfl hf.ops.h39 (by decide) (nW hf.ops.h39 hf.GQ zf CA rfl rfl (by omega) (by omega) _) (fun a bt=> ?_)
  refine bt.step (v:= .slice (some ⟨g2,0,none⟩) m c2) rfl hf.ops.h40 (by decide) (bI hf.ops.h40 _) (fun a bt=> ?_)
  refine bt.step (v:=v1) rfl hf.ops.h41 (by decide) (zS hf.ops.h41 rfl rfl (hB _)) (fun a bt=> ?_)
  refine wp_seq (NC hf.mix hf.ops.d11 (k:=8) rfl fun kq=> ?_)
  refine bt.draw (v:= .slice (some ⟨g9,0,none⟩) (n+m) G) rfl hf.ops.h42 (by decide) kq (fun w=>bI hf.ops.h42 _) (fun a bt kq=> ?_)
  refine bt.draw (v:= .int .i64 ((i:Nat):Int)) rfl hf.ops.h43 (by decide) kq (fun w=>bI hf.ops.h43 _) (fun a bt kq=> ?_)
  refine bt.draw (v:= .int .i64 ((m:Nat):Int)) rfl hf.ops.h44 (by decide) kq (fun w=>bI hf.ops.h44 _) (fun a bt kq=> ?_)
  refine bt.draw (v:= .int .i64 ((i+m:Nat):Int)) rfl hf.ops.h45 (by decide) kq (fun w=>qG hf.ops.h45 rfl rfl (by omega) _) (fun a bt kq=> ?_)
  refine bt.draw (v:= .slice (some ⟨g9,(i+m) *size,none⟩) (n+m-(i+m)) (G-(i+m))) rfl hf.ops.h46 (by decide) kq (fun w=>nW hf.ops.h46 hf.GQ zf CA rfl rfl (by omega) (by omega) _) (fun a bt kq=> ?_)
  refine bt.draw (v:= .slice (some ⟨g,0,none⟩) n c) rfl hf.ops.h47 (by decide) kq (fun w=>bI hf.ops.h47 _) (fun a bt kq=> ?_)
  refine bt.draw (v:= .int .i64 ((i:Nat):Int)) rfl hf.ops.h48 (by decide) kq (fun w=>bI hf.ops.h48 _) (fun a bt kq=> ?_)
  refine bt.draw (v:= .slice (some ⟨g,i *size,none⟩) (n-i) (c-i)) rfl hf.ops.h49 (by decide) kq (fun w=>nW hf.ops.h49 hf.GQ zf CA rfl rfl (by omega) (by omega) _) (fun a bt kq=> ?_)
  refine bt.last (v:=v2) rfl hf.ops.h50 (by decide) kq (zS hf.ops.h50 rfl rfl (hC _)) (fun a bt=> ?_)
  refine wp_seq (wp_region ?_)
  rw [show List.range (#[o 51,o 52]:Array Oper).size=[0,1] from rfl]
  refine bt.step (v:= .slice (some ⟨g9,0,none⟩) (n+m) G) rfl hf.ops.h51 (by decide) (bI hf.ops.h51 _) (fun a bt=> ?_)
  refine bt.step (v:= .slice (some ⟨g9,0,none⟩) (n+m) G) rfl hf.ops.h52 (by decide) (jU hf.ops.h52 _) (fun a bt=> ?_)
  refine wp_ret ?_
  show bodyPost P fn (fun x wq=>x= .returned (.slice (some ⟨g9,0,none⟩) (n+m) G)∧wq=w3) .ret a w3
  refine Ib hf.res bt (v:= .slice (some ⟨g9,0,none⟩) (n+m) G) rfl ?_
  exact ⟨rfl,rfl⟩
 exact key _ (tm3 _ _ _ 92)
theorem RZ (hf:GP P f t ti tb el fo fn r o tail) (zf:P.info? el=some ie) (CA:ie.size=size) (hm:0<m) (hn:n≤c) (hc:c<2^63) (Y9:n+m<2^63) (hi:i<n) (rB:n+m≤c) {v1 v2:Value} {w1 w2:World} (hO:(callFunc fo #[.slice (some ⟨g2,0,none⟩) m c2,.slice (some ⟨g,(i+m) *size,none⟩) (n+m-(i+m)) (c-(i+m))]).run P w= .ok (.value (.bool false)) w)
 (hB: ∀ty,(Builtin.copy_ #[t,t] ty #[.slice (some ⟨g,(i+m) *size,none⟩) (n+m-(i+m)) (c-(i+m)),.slice (some ⟨g,i *size,none⟩) (n+m-i) (c-i)]).run P {w with drawn:=w.drawn+1}= .ok v1 w1)
 (hC: ∀ty,(Builtin.copy_ #[t,t] ty #[.slice (some ⟨g,i *size,none⟩) (n+m-i) (c-i),.slice (some ⟨g2,0,none⟩) m c2]).run P w1= .ok v2 w2)
 :Calls P f #[.slice (some ⟨g,0,none⟩) n c,.int .i64 ((i:Nat):Int),.slice (some ⟨g2,0,none⟩) m c2] w fun x w'=>x= .returned (.slice (some ⟨g,0,none⟩) (n+m) c)∧w'=w2:=by
 refine calls_of_wp hf.pos hf.body ?_
 rw [hf.tmps]
 have key: ∀a:Act,Tm a 95 (IX (IX (IX (fun _=>undef) 0 (.slice (some ⟨g,0,none⟩) n c)) 1 (.int .i64 ((i:Nat):Int))) 2 (.slice (some ⟨g2,0,none⟩) m c2))→(tR r o tail).wp P (bodyPost P fn fun x w'=>x= .returned (.slice (some ⟨g,0,none⟩) (n+m) c)∧w'=w2) a w:=by
  intro a bt
  unfold tR
  refine wp_seq (wp_region ?_)
  rw [show List.range (#[o 0]:Array Oper).size=[0] from rfl]
  refine bt.step (v:= .slice none 0 0) rfl hf.ops.h0 (by decide) (jU hf.ops.h0 _) (fun a bt=> ?_)
  refine wp_seq (wp_region ?_)
  rw [show List.range (#[o 1,o 2,o 3]:Array Oper).size=[0,1,2] from rfl]
  refine bt.step (v:= .slice (some ⟨g,0,none⟩) n c) rfl hf.ops.h1 (by decide) (bI hf.ops.h1 _) (fun a bt=> ?_)
  refine bt.step (v:= .int .i64 ((i:Nat):Int)) rfl hf.ops.h2 (by decide) (bI hf.ops.h2 _) (fun a bt=> ?_)
  refine bt.step (v:= .slice (if c=i then (some ⟨g,0,none⟩) else ((some ⟨g,0,none⟩):Option Addr).map (·.add (i *size))) (n-i) (c-i)) rfl hf.ops.h3 (by decide) (zQ hf.ops.h3 hf.GQ zf CA rfl rfl (by omega) _) (fun a bt=> ?_)
  refine wp_seq (wp_region ?_)
  rw [show List.range (#[o 4,o 5,o 6]:Array Oper).size=[0,1,2] from rfl]
  refine bt.step (v:= .slice (some ⟨g2,0,none⟩) m c2) rfl hf.ops.h4 (by decide) (bI hf.ops.h4 _) (fun a bt=> ?_)
  refine bt.step (v:= .int .i64 ((m:Nat):Int)) rfl hf.ops.h5 (by decide) (xe hf.ops.h5 hf.GQ rfl _) (fun a bt=> ?_)
  refine bt.step (v:= .int .i64 ((m:Nat):Int)) rfl hf.ops.h6 (by decide) (jU hf.ops.h6 _) (fun a bt=> ?_)
  refine wp_seq ?_
  refine wp_seq (wp_region ?_)
  rw [show List.range (#[o 7,o 8]:Array Oper).size=[0,1] from rfl]
  refine bt.step (v:= .int .i64 ((m:Nat):Int)) rfl hf.ops.h7 (by decide) (bI hf.ops.h7 _) (fun a bt=> ?_)
  refine bt.step (v:= .bool (decide (((m:Nat):Int)=((0:Nat):Int)))) rfl hf.ops.h8 (by decide) (xf hf.ops.h8 rfl rfl _) (fun a bt=> ?_)
  refine bt.cond (b:=false) (by show Value.bool (decide (((m:Nat):Int)=((0:Nat):Int)))=_;rw [decide_eq_false (by omega)]) ?_
  simp only [Bool.false_eq_true,if_false]
  refine wp_skip ?_
  refine wp_seq (wp_region ?_)
  rw [show List.range (#[o 11,o 12,o 13]:Array Oper).size=[0,1,2] from rfl]
  refine bt.step (v:= .slice (some ⟨g,0,none⟩) n c) rfl hf.ops.TD (by decide) (bI hf.ops.TD _) (fun a bt=> ?_)
  refine bt.step (v:= .int .i64 ((n:Nat):Int)) rfl hf.ops.UT (by decide) (xe hf.ops.UT hf.GQ rfl _) (fun a bt=> ?_)
  refine bt.step (v:= .int .i64 ((n:Nat):Int)) rfl hf.ops.UU (by decide) (jU hf.ops.UU _) (fun a bt=> ?_)
  refine wp_seq ?_
  refine wp_seq (wp_region ?_)
  rw [show List.range (#[o 14,o 15,o 16]:Array Oper).size=[0,1,2] from rfl]
  refine bt.step (v:= .int .i64 ((i:Nat):Int)) rfl hf.ops.UW (by decide) (bI hf.ops.UW _) (fun a bt=> ?_)
  refine bt.step (v:= .int .i64 ((n:Nat):Int)) rfl hf.ops.UX (by decide) (bI hf.ops.UX _) (fun a bt=> ?_)
  refine bt.step (v:= .bool (decide (((i:Nat):Int)=((n:Nat):Int)))) rfl hf.ops.UY (by decide) (xf hf.ops.UY rfl rfl _) (fun a bt=> ?_)
  refine bt.cond (b:=false) (by show Value.bool (decide (((i:Nat):Int)=((n:Nat):Int)))=_;rw [decide_eq_false (by omega)]) ?_
  simp only [Bool.false_eq_true,if_false]
  refine wp_skip ?_
  refine wp_seq ?_
  refine wp_seq (wp_region ?_)
  rw [show List.range (#[o 21,o 22,o 23,o 24,o 25,o 26]:Array Oper).size=[0,1,2,3,4,5] from rfl]
  refine bt.step (v:= .int .i64 ((n:Nat):Int)) rfl hf.ops.Zm (by decide) (bI hf.ops.Zm _) (fun a bt=> ?_)
  refine bt.step (v:= .int .i64 ((m:Nat):Int)) rfl hf.ops.Zn (by decide) (bI hf.ops.Zn _) (fun a bt=> ?_)
  refine bt.step (v:= .int .i64 ((n+m:Nat):Int)) rfl hf.ops.Zo (by decide) (qG hf.ops.Zo rfl rfl (by omega) _) (fun a bt=> ?_)
  refine bt.step (v:= .slice (some ⟨g,0,none⟩) n c) rfl hf.ops.Zp (by decide) (bI hf.ops.Zp _) (fun a bt=> ?_)
  refine bt.step (v:= .int .i64 ((c:Nat):Int)) rfl hf.ops.Zq (by decide) (Nz hf.ops.Zq hf.GQ rfl _) (fun a bt=> ?_)
  refine bt.step (v:= .bool (decide (((c:Nat):Int)<(((n+m):Nat):Int)))) rfl hf.ops.Zr (by decide) (JW hf.ops.Zr rfl rfl _) (fun a bt=> ?_)
  refine bt.cond (b:=false) (by show Value.bool (decide (((c:Nat):Int)<((n+m:Nat):Int)))=_;rw [decide_eq_false (by omega)]) ?_
  simp only [Bool.false_eq_true,if_false]
  refine wp_skip ?_
  refine wp_seq (wp_region ?_)
  rw [show List.range (#[o 53,o 54,o 55,o 56,o 57,o 58]:Array Oper).size=[0,1,2,3,4,5] from rfl]
  refine bt.step (v:= .slice (some ⟨g,0,none⟩) n c) rfl hf.ops.h53 (by decide) (bI hf.ops.h53 _) (fun a bt=> ?_)
  refine bt.step (v:= .int .i64 ((n:Nat):Int)) rfl hf.ops.h54 (by decide) (bI hf.ops.h54 _) (fun a bt=> ?_)
  refine bt.step (v:= .int .i64 ((m:Nat):Int)) rfl hf.ops.h55 (by decide) (bI hf.ops.h55 _) (fun a bt=> ?_)
  refine bt.step (v:= .int .i64 ((n+m:Nat):Int)) rfl hf.ops.h56 (by decide) (qG hf.ops.h56 rfl rfl (by omega) _) (fun a bt=> ?_)
  refine bt.step (v:= .slice (some ⟨g,0,none⟩) (n+m) c) rfl hf.ops.h57 (by decide) (JX hf.ops.h57 hf.GQ zf CA rfl rfl (by omega) _) (fun a bt=> ?_)
  refine bt.step (v:= .slice (some ⟨g,0,none⟩) (n+m) c) rfl hf.ops.h58 (by decide) (jU hf.ops.h58 _) (fun a bt=> ?_)
  refine wp_seq ?_
  refine wp_seq (wp_region ?_)
  rw [show List.range (#[o 59,o 60,o 61,o 62,o 63,o 64,o 65,o 66]:Array Oper).size=[0,1,2,3,4,5,6,7] from rfl]
  refine bt.step (v:= .slice (some ⟨g2,0,none⟩) m c2) rfl hf.ops.h59 (by decide) (bI hf.ops.h59 _) (fun a bt=> ?_)
  refine bt.step (v:= .slice (some ⟨g,0,none⟩) (n+m) c) rfl hf.ops.h60 (by decide) (bI hf.ops.h60 _) (fun a bt=> ?_)
  refine bt.step (v:= .int .i64 ((i:Nat):Int)) rfl hf.ops.h61 (by decide) (bI hf.ops.h61 _) (fun a bt=> ?_)
  refine bt.step (v:= .int .i64 ((m:Nat):Int)) rfl hf.ops.h62 (by decide) (bI hf.ops.h62 _) (fun a bt=> ?_)
  refine bt.step (v:= .int .i64 ((i+m:Nat):Int)) rfl hf.ops.h63 (by decide) (qG hf.ops.h63 rfl rfl (by omega) _) (fun a bt=> ?_)
  refine bt.step (v:= .slice (some ⟨g,(i+m) *size,none⟩) (n+m-(i+m)) (c-(i+m))) rfl hf.ops.h64 (by decide) (nW hf.ops.h64 hf.GQ zf CA rfl rfl (by omega) (by omega) _) (fun a bt=> ?_)
  refine bt.step (v:= .bool false) rfl hf.ops.h65 (by decide) (UR hf.ops.h65 rfl rfl rfl hO) (fun a bt=> ?_)
  refine bt.step (v:= .bool (!false)) rfl hf.ops.h66 (by decide) (UQ hf.ops.h66 rfl _) (fun a bt=> ?_)
  refine bt.cond (b:=true) rfl ?_
  simp only [if_true]
  refine wp_seq (NC hf.mix hf.ops.d15 (k:=8) rfl fun kq=> ?_)
  refine bt.draw (v:= .slice (some ⟨g,0,none⟩) (n+m) c) rfl hf.ops.h67 (by decide) kq (fun w=>bI hf.ops.h67 _) (fun a bt kq=> ?_)
  refine bt.draw (v:= .int .i64 ((i:Nat):Int)) rfl hf.ops.h68 (by decide) kq (fun w=>bI hf.ops.h68 _) (fun a bt kq=> ?_)
  refine bt.draw (v:= .int .i64 ((m:Nat):Int)) rfl hf.ops.h69 (by decide) kq (fun w=>bI hf.ops.h69 _) (fun a bt kq=> ?_)
  refine bt.draw (v:= .int .i64 ((i+m:Nat):Int)) rfl hf.ops.h70 (by decide) kq (fun w=>qG hf.ops.h70 rfl rfl (by omega) _) (fun a bt kq=> ?_)
  refine bt.draw (v:= .slice (some ⟨g,(i+m) *size,none⟩) (n+m-(i+m)) (c-(i+m))) rfl hf.ops.h71 (by decide) kq (fun w=>nW hf.ops.h71 hf.GQ zf CA rfl rfl (by omega) (by omega) _) (fun a bt kq=> ?_)
  refine bt.draw (v:= .slice (some ⟨g,0,none⟩) (n+m) c) rfl hf.ops.h72 (by decide) kq (fun w=>bI hf.ops.h72 _) (fun a bt kq=> ?_)
  refine bt.draw (v:= .int .i64 ((i:Nat):Int)) rfl hf.ops.h73 (by decide) kq (fun w=>bI hf.ops.h73 _) (fun a bt kq=> ?_)
  refine bt.draw (v:= .slice (some ⟨g,i *size,none⟩) (n+m-i) (c-i)) rfl hf.ops.h74 (by decide) kq (fun w=>nW hf.ops.h74 hf.GQ zf CA rfl rfl (by omega) (by omega) _) (fun a bt kq=> ?_)
  refine bt.last (v:=v1) rfl hf.ops.h75 (by decide) kq (zS hf.ops.h75 rfl rfl (hB _)) (fun a bt=> ?_)
  refine wp_seq (wp_region ?_)
  rw [show List.range (#[o 76,o 77,o 78,o 79,o 80]:Array Oper).size=[0,1,2,3,4] from rfl]
  refine bt.step (v:= .slice (some ⟨g,0,none⟩) (n+m) c) rfl hf.ops.h76 (by decide) (bI hf.ops.h76 _) (fun a bt=> ?_)
  refine bt.step (v:= .int .i64 ((i:Nat):Int)) rfl hf.ops.h77 (by decide) (bI hf.ops.h77 _) (fun a bt=> ?_)
  refine bt.step (v:= .slice (some ⟨g,i *size,none⟩) (n+m-i) (c-i)) rfl hf.ops.h78 (by decide) (nW hf.ops.h78 hf.GQ zf CA rfl rfl (by omega) (by omega) _) (fun a bt=> ?_)
  refine bt.step (v:= .slice (some ⟨g2,0,none⟩) m c2) rfl hf.ops.h79 (by decide) (bI hf.ops.h79 _) (fun a bt=> ?_)
  refine bt.step (v:=v2) rfl hf.ops.h80 (by decide) (zS hf.ops.h80 rfl rfl (hC _)) (fun a bt=> ?_)
  refine wp_seq (wp_region ?_)
  rw [show List.range (#[o 81,o 82]:Array Oper).size=[0,1] from rfl]
  refine bt.step (v:= .slice (some ⟨g,0,none⟩) (n+m) c) rfl hf.ops.h81 (by decide) (bI hf.ops.h81 _) (fun a bt=> ?_)
  refine bt.step (v:= .slice (some ⟨g,0,none⟩) (n+m) c) rfl hf.ops.h82 (by decide) (jU hf.ops.h82 _) (fun a bt=> ?_)
  refine wp_ret ?_
  show bodyPost P fn (fun x wq=>x= .returned (.slice (some ⟨g,0,none⟩) (n+m) c)∧wq=w2) .ret a w2
  refine Ib hf.res bt (v:= .slice (some ⟨g,0,none⟩) (n+m) c) rfl ?_
  exact ⟨rfl,rfl⟩
 exact key _ (tm3 _ _ _ 92)
end
end Dn
/-
  What slices.Insert does to a slice of its own. Conditions: none.
-/
set_option linter.unusedSimpArgs false
set_option linter.unusedVariables false
namespace Dn
open Go
section
variable {key:Nat→Nat} {φ:Ph} {size:Nat}
theorem bn.take {xs:List MV}: ∀{cs:List Value} (i:Nat),bn key φ size cs xs→bn key φ size (cs.take (i *size)) (xs.take i):=by
 induction xs with
 |nil=>intro cs i h;cases h;simp [bn]
 |cons x xs ih=>
  intro cs i h
  obtain ⟨v,q,rfl,h1,h2,h3⟩:=h
  cases i with
  |zero=>simp [bn]
  |succ i=>
   refine ⟨v,q.take (i *size),?_,h1,h2,ih i h3⟩
   rw [Nat.add_mul,Nat.one_mul,Nat.add_comm,List.take_append,h1]
   congr 1
   ·exact List.take_of_length_le (by omega)
   ·congr 1;omega
theorem bn.drop {xs:List MV}: ∀{cs:List Value} (i:Nat),bn key φ size cs xs→bn key φ size (cs.drop (i *size)) (xs.drop i):=by
 induction xs with
 |nil=>intro cs i h;cases h;simp [bn]
 |cons x xs ih=>
  intro cs i h
  cases i with
  |zero=>simpa using h
  |succ i=>
   obtain ⟨v,q,rfl,h1,h2,h3⟩:=h
   have:=ih i h3
   rw [Nat.add_mul,Nat.one_mul,Nat.add_comm,List.drop_append,h1,List.drop_of_length_le (by omega),List.nil_append,Nat.add_sub_cancel_left]
   simpa using this
end
section
variable {P:Program} {c:Ctx} {f:Nat} {W W':World} {φ:Ph} {Z:Nat→Prop} {v0 v':Value}
theorem Ic {ty:Nat} {E:TI} {n:Nat} {cells:List Value} {rs:List MV} (hz: ∀b,W.heap.size≤b→Z b) (mD:zC φ W) (hE:c.ti ty=some E) (r7:E.cH=[]) (Ia:c.pB (c.key f)=ty)
 (hold: ∀b,b<W.heap.size→some b≠v0.ownBlock→W'.heap[b]? =W.heap[b]?) (qk:W.heap.size≤W'.heap.size) (xU:Rest W W')
 (PR: ∀b,v0.ownBlock=some b→Z b∧ ∀off,φ b off=none) (eB:W'.ownsRow 0 ty E.size v' n cells) (hn:rs.length=n) (mM:bn c.key φ E.size cells rs)
 (Lw: ∀b,v'.ownBlock=some b→v0.ownBlock=some b∨W.heap.size≤b): ∃φ',Trans Z φ W φ' W'∧zC φ' W'∧iH c Z φ' W' (c.key f) v' (.fresh rs):=by
 refine ⟨φ,⟨.refl _,?_,fun _ _ _=>rfl,qk,xU⟩,?_,?_⟩
 ·intro b hb du
  exact hold b du (fun he=>hb (PR b he.symm).1)
 ·intro b off u hbo
  have h1:=mD b off u hbo
  have du:=World.block_lt_of_cell? W _ h1
  rw [World.cell?_of_block (hold b du (fun he=>by rw [(PR b he.symm).2 off] at hbo;cases hbo))]
  exact h1
 ·show dc c (bB.plain Z) (q8 c.key φ) W' v' ⟨c.pB (c.key f),false,rs⟩
  rw [Ia]
  refine ⟨E,cells,hE,r7,by rw [hn];exact eB,mM,fun bj hb=> ?_⟩
  rcases Lw bj hb with h|h
  ·exact ⟨(PR bj h).1,fun off u hu=>(by have hu:φ bj off=some u:=hu;rw [(PR bj h).2 off] at hu;cases hu),fun hc=>hc.elim⟩
  ·refine ⟨hz bj h,fun off u hu=> ?_,fun hc=>hc.elim⟩
   have:=World.block_lt_of_cell? W _ (mD _ _ _ hu)
   exact absurd this (by show¬bj<W.heap.size;omega)
theorem U0 {A eZ:List Value} {cells news:List Value} {p q r:Nat} (hA:A.length=eZ.length) (hp:p+news.length=q) (hc:cells.length=r) (PQ:p≤r) (HH:r+news.length≤eZ.length)
 (h1:A.take p=cells.take p) (h2:(A.drop q).take (r-p)=cells.drop p):(A.take p++news++A.drop q).take (r+news.length)=cells.take p++news++cells.drop p:=by
 have hl:(A.take p).length=p:=by rw [List.length_take];omega
 rw [List.take_append,List.length_append,hl,hp,List.take_of_length_le (by rw [List.length_append,hl];omega),h1]
 congr 1
 rw [show r+news.length-q=r-p by omega]
 exact h2
theorem GR {t ti tb el fo:Nat} {fn:Func} {r:Nat→Nat} {o:Nat→Oper} {tail:Code} {I E:TI} {xs ys:List MV} {i:Nat} (hf:GP P f t ti tb el fo fn r o tail) (hT:jI P c.ti) (hI:c.tv t=some I) (hL:I.wR=true) (hE:c.tv I.elem=some E) (sP:1≤E.bytes)
 (VI:el=I.elem) (oQ:P.underlying ti=some (.int .i64)) (Ia:c.pB (c.key f)=I.elem) (hg:c.fK (c.key f)=true)
 (hov: ∀args w,(callFunc fo args).run P w=((Extern.SlicesOverlaps.overlaps #[t,t] #[tb] args).run P w).andThen fun v w'=> .ok (.value v) w')
 (hi:i≤xs.length) (hys:ys≠[]) (je:(xs.length+ys.length) *E.bytes≤2^46):kn P c f [.fresh xs,.i .i64 i,.fresh ys] (.fresh (xs.take i++ys++xs.drop i)):=by
 subst VI
 obtain ⟨hIt,TY⟩:=bK hI
 obtain ⟨ql,r7⟩:=bK hE
 obtain ⟨hu,E2,BP,_,jx⟩:=TI.lB (hT t I hIt) hL
 rw [ql] at BP
 cases BP
 obtain ⟨ie,z,zf,CA,Ua,hz0,PN⟩:=sO (hT _ E ql) r7
 intro φ W Z vs hz iT mD
 simp only [gf,hg,if_true] at iT
 obtain ⟨v0,v1,v2,xs',m1,ys',rfl,Nk,F0,A1,F2,dt⟩:=iT.resolve_right (by
  rintro (⟨_,_,_,_,_,m2,_,h1,h2,_⟩|⟨pos,_,_,_,_,_,_,h1,_⟩)
  ·simp only [List.cons.injEq,and_true] at h1
   rw [←h1.2.2] at h2;simp [MV.one] at h2
  ·rcases pos with _|_|_|pos<;>simp at h1)
 simp only [List.cons.injEq,MV.fresh.injEq,and_true] at Nk
 obtain ⟨rfl,rfl,rfl⟩:=Nk
 have Jk:v1= .int .i64 (i:Int):=by
  obtain ⟨_,h⟩:=A1
  generalize xN:[v1]=l at h
  cases h;simpa using xN
 subst Jk
 rw [Ia] at F0 F2
 obtain ⟨I0,cells,hI0,_,GS,GU,Wg⟩:=F0
 have hI0:c.ti I.elem=some I0:=hI0
 rw [ql] at hI0
 cases hI0
 obtain ⟨I2,news,KU,_,Gu,zv,aiY⟩:=F2
 have KU:c.ti I.elem=some I2:=KU
 rw [ql] at KU
 cases KU
 have GS:W.ownsRow 0 I.elem E.size v0 xs.length cells:=GS
 have Gu:W.ownsRow 0 I.elem E.size v2 ys.length news:=Gu
 have GU:bn c.key φ E.size cells xs:=GU
 have zv:bn c.key φ E.size news ys:=zv
 have PR: ∀b,v0.ownBlock=some b→Z b∧ ∀off,φ b off=none:=by
  intro b hb
  refine ⟨(Wg b hb).1,fun off=> ?_⟩
  cases h:φ b off with
  |none=>rfl
  |some u=>have:=((Wg b hb).2.1 off u h).1;cases this
 have hm:0<ys.length:=List.length_pos_iff.2 hys
 have CV:news.length=ys.length *E.size:=zv.length
 have pS:cells.length=xs.length *E.size:=GU.length
 have hlen:xs.length+ys.length≤2^46:=Nat.le_trans (Nat.le_mul_of_pos_right _ sP) je
 obtain ⟨g2,c2,Jo,rfl,Tw,ak8,hc2,M7,ak9⟩: ∃g2 c2 Jo,v2= .slice (some ⟨g2,0,none⟩) ys.length c2∧W.heap[g2]? =some (.cells Jo I.elem (0,0))∧ys.length≤c2∧c2≤maxLen∧Jo.size=c2 *E.size∧Jo.toList.take (ys.length *E.size)=news:=by
  rcases Gu.2 with ⟨_,h0⟩|⟨g2,c2,Jo,h1,_,h3,h4,h5,h6,h7⟩
  ·omega
  ·exact ⟨g2,c2,Jo,h1,h3,h4,h5,h6,h7⟩
 have afY:=bo Tw
 have R0: ∀{w:World},(w.heap[g2]? =W.heap[g2]?)→ ∀(j:Nat) (u:Value),news[j]? =some u→w.cell? ((⟨g2,0,none⟩:Addr).add j)=some u:=by
  intro w hw j u hj
  have:=Gu.cells (g:=g2) rfl j u hj
  rw [Addr.add_mid] at this⊢
  rw [World.cell?_of_block hw];exact this
 have bq: ∀g,v0.ownBlock=some g→ ∀{w:World},(w.heap[g]? =W.heap[g]?)→ ∀(j:Nat) (u:Value),cells[j]? =some u→w.cell? ((⟨g,0,none⟩:Addr).add j)=some u:=by
  intro g hg w hw j u hj
  have:=GS.cells (g:=g) hg j u hj
  rw [Addr.add_mid] at this⊢
  rw [World.cell?_of_block hw];exact this
 have bW:(callFunc f [v0,.int .i64 (i:Int),.slice (some ⟨g2,0,none⟩) ys.length c2].toArray).run P W= .ok (.enter f #[v0,.int .i64 (i:Int),.slice (some ⟨g2,0,none⟩) ys.length c2]) W:=by
  have HF: ¬fn.name= "runtime.NumGoroutine" :=by simpa using hf.name
  simp [callFunc,hf.pos,HF,hf.body]
 unfold jf
 rw [bW]
 have Zs:(xs.take i++ys++xs.drop i).length=xs.length+ys.length:=by simp;omega
 have Ed:bn c.key φ E.size (cells.take (i *E.size)++news++cells.drop (i *E.size)) (xs.take i++ys++xs.drop i):=((GU.take i).append zv).append (GU.drop i)
 by_cases wU:i=xs.length
 ·
  have vF:Src (q8 c.key φ) W E.size (.slice (some ⟨g2,0,none⟩) ys.length c2) ys news:=⟨zv,_,_,rfl,by simp,fun x hx j u hj=>by cases hx;exact R0 rfl j u hj⟩
  have uY:cells.take (i *E.size)++news++cells.drop (i *E.size)=cells++news:=by
   rw [wU,←pS,List.take_length,List.drop_length,List.append_nil]
  rw [uY] at Ed
  have fin: ∀v' W',aaf W W' I.elem E.size v0 v' xs.length ys.length cells news→ ∃φ',Trans Z φ W φ' W'∧zC φ' W'∧iH c Z φ' W' (c.key f) v' (.fresh (xs.take i++ys++xs.drop i)):=by
   intro v' W' tJ
   refine Ic (v0:=v0) hz mD ql r7 Ia tJ.r6 tJ.size tJ.rest PR tJ.own Zs Ed ?_
   intro b hb
   rcases tJ.place with h|h
   ·left;rw [←h];exact hb
   ·right;rw [h] at hb;cases hb;exact Nat.le_refl _
  obtain ⟨v',W',hr,tJ⟩:=yy (P:=P) (c:=c) (ty:=0) hu ql r7 jx hT sP GS (vF.apx hu) je
  have hr': ∀ty,(Builtin.append_ #[t,t] ty #[v0,.slice (some ⟨g2,0,none⟩) ys.length c2]).run P W= .ok v' W':=fun ty=>hr
  have afZ: ∃ad c0,v0= .slice ad xs.length c0∧xs.length≤c0∧c0≤maxLen:=by
   rcases GS.2 with ⟨h1,h0⟩|⟨g,c0,eZ,h1,_,h3,h4,h5,_⟩
   ·exact ⟨none,0,by rw [h1,h0],by omega,by omega⟩
   ·exact ⟨_,c0,h1,h4,h5⟩
  obtain ⟨ad,c0,rfl,hnc,IM⟩:=afZ
  refine (UZ hf zf CA hm hnc (by unfold maxLen at IM;omega) (by omega) wU hr').mono ?_
  rintro x wS ⟨rfl,rfl⟩
  exact ⟨_,rfl,fin _ _ tJ⟩
 ·have wU:i<xs.length:=by omega
  obtain ⟨g,c0,eZ,rfl,hgc,hnc,IM,xx,IQ⟩: ∃g c0 eZ,v0= .slice (some ⟨g,0,none⟩) xs.length c0∧W.heap[g]? =some (.cells eZ I.elem (0,0))∧xs.length≤c0∧c0≤maxLen∧eZ.size=c0 *E.size∧eZ.toList.take (xs.length *E.size)=cells:=by
   rcases GS.2 with ⟨_,h0⟩|⟨g,c0,eZ,h1,_,h3,h4,h5,h6,h7⟩
   ·omega
   ·exact ⟨g,c0,eZ,h1,h3,h4,h5,h6,h7⟩
  have Xh:=bo hgc
  have PU:g≠g2:=fun h=>dt g rfl (by rw [h];rfl)
  have sU:i *E.size≤xs.length *E.size:=Nat.mul_le_mul_right _ hi
  have him:(i+ys.length) *E.size=i *E.size+news.length:=by rw [Nat.add_mul,CV]
  have Y9:(xs.length+ys.length) *E.size=xs.length *E.size+news.length:=by rw [Nat.add_mul,CV]
  have TA:(cells.drop (i *E.size)).length=(xs.length-i) *E.size:=by rw [List.length_drop,pS,Nat.sub_mul]
  have ala:(xs.length-i) *E.size=xs.length *E.size-i *E.size:=Nat.sub_mul _ _ _
  have Wh: ∀{w:World},(w.heap[g]? =W.heap[g]?)→ ∀(j:Nat) (u:Value),(cells.drop (i *E.size))[j]? =some u→w.cell? ((⟨g,i *E.size,none⟩:Addr).add j)=some u:=by
   intro w hw j u hj
   rw [List.getElem?_drop] at hj
   have:=bq g rfl hw _ u hj
   rw [Addr.add_mid] at this⊢
   rwa [Nat.zero_add] at this
  have Og: ∀u∈cells.drop (i *E.size),u.oneCell'=true:=fun u hu=>GU.Dv u (List.mem_of_mem_drop hu)
  have abq:Rest W {W with drawn:=W.drawn+1}:=⟨rfl,rfl,rfl,fun _=>rfl⟩
  by_cases rB:c0<xs.length+ys.length
  ·have hk:i+(xs.length+ys.length-i)=xs.length+ys.length:=by omega
   obtain ⟨G,hG⟩: ∃G,G=grownCap W (xs.length+ys.length) c0 I.elem:=⟨_,rfl⟩
   have hGn:xs.length+ys.length≤G:=by rw [hG];exact grownCap_ge W _ _ _
   have hGm:G≤maxLen:=by rw [hG];exact grownCap_le_maxLen W _ _ _ (by unfold maxLen;omega)
   obtain ⟨Ie,XK⟩: ∃Ie:Array Value,Ie=(cells.take (i *E.size)).toArray++Builtin.zeroCells z.cells (xs.length+ys.length-i)++Builtin.zeroCells z.cells (G-(xs.length+ys.length)):=⟨_,rfl⟩
   have hRl:Ie.size=G *E.size:=by
    rw [XK]
    simp only [Array.size_append,List.size_toArray,List.length_take,Builtin.zeroCells,Array.size_map,Array.size_range,PN]
    rw [Nat.min_eq_left (by rw [pS];exact sU),←Nat.add_mul,←Nat.add_mul]
    congr 1;omega
   have hRt:Ie.toList.take (i *E.size)=cells.take (i *E.size):=by
    rw [XK]
    simp only [Array.toList_append,List.append_assoc]
    have hl:(cells.take (i *E.size)).length=i *E.size:=by rw [List.length_take,pS];exact Nat.min_eq_left sU
    rw [List.take_append_of_le_length (by omega),List.take_of_length_le (by omega)]
   have hA: ∀ty,(Builtin.append_ #[t,ti] ty #[.slice (some ⟨g,0,none⟩) i c0,.int .i64 ((xs.length+ys.length-i:Nat):Int)]).run P W= .ok (.slice (some ⟨W.heap.size,0,none⟩) (xs.length+ys.length) G) (W.drew.alloc (.cells Ie I.elem)):=fun ty=>by
    have hold:(Builtin.firstCells ie.size i (.slice (some ⟨g,0,none⟩) i c0)).run P W.drew= .ok (cells.take (i *E.size)).toArray W.drew:=by
     refine run_firstCells_some W.drew ie.size i ⟨g,0,none⟩ i c0 _ (by rw [CA,List.length_take,pS];exact Nat.min_eq_left sU) (fun j v hj=> ?_)
     rw [List.getElem?_take] at hj
     split at hj
     ·exact bq g rfl rfl j v hj
     ·cases hj
    have h:=Lib.run_append_grow_zeros W t ti ty I.elem ie z .i64 .i64 hu oQ zf hz0 (some ⟨g,0,none⟩) i c0 (cells.take (i *E.size)) hold (xs.length+ys.length-i) (by omega) (by rw [CA];exact jx) (by omega) (by omega)
     (by rw [Ua];exact Nat.le_trans (Nat.mul_le_mul_right _ (by omega:xs.length+ys.length-i≤xs.length+ys.length)) (Nat.le_trans je (by omega))) (by rw [Ua,hk];exact growslice_fits rB (Nat.le_trans je (by omega)))
    rw [hk,←hG,←XK] at h
    exact h
   have hg9:(W.drew.alloc (.cells Ie I.elem)).heap[W.heap.size]? =some (.cells Ie I.elem (0,0)):=iu W.drew _
   have BT: ∀b,b<W.heap.size→(W.drew.alloc (.cells Ie I.elem)).heap[b]? =W.heap[b]? :=fun b hb=>oc W.drew _ b hb
   have hnG:(xs.length+ys.length) *E.size≤Ie.size:=by rw [hRl];exact Nat.mul_le_mul_right _ hGn
   obtain ⟨RA,hRA⟩: ∃RA:List Value,RA=Ie.toList.take (i *E.size)++news++Ie.toList.drop (i *E.size+news.length):=⟨_,rfl⟩
   have abr:RA.length=Ie.size:=by
    rw [hRA]
    simp only [List.length_append,List.length_take,List.length_drop,Array.length_toList]
    omega
   have hB: ∀ty,(Builtin.copy_ #[t,t] ty #[.slice (some ⟨W.heap.size,i *E.size,none⟩) (xs.length+ys.length-i) (G-i),.slice (some ⟨g2,0,none⟩) ys.length c2]).run P (W.drew.alloc (.cells Ie I.elem))=
    .ok (goInt ((ys.length:Nat):Int)) (World.setRow (W.drew.alloc (.cells Ie I.elem)) W.heap.size RA.toArray):=fun ty=>by
    rw [hRA]
    exact oe (size:=E.size) hu zf CA hg9 (by simp only [Nat.min_def];split<;>omega) CV (R0 (BT g2 afY)) (by omega) zv.Dv
   have XL:=setRow_heap (W.drew.alloc (.cells Ie I.elem)) W.heap.size Ie RA.toArray I.elem (0,0) hg9
   obtain ⟨W2,hW2⟩: ∃W2,W2=World.setRow (W.drew.alloc (.cells Ie I.elem)) W.heap.size RA.toArray:=⟨_,rfl⟩
   have U1: ∀b,b<W.heap.size→W2.heap[b]? =W.heap[b]? :=fun b hb=>by rw [hW2,setRow_other _ _ _ _ (by omega)];exact BT b hb
   have XM:Rest W W2:=by
    rw [hW2]
    exact (show Rest W W.drew from ⟨rfl,rfl,rfl,fun _=>rfl⟩).trans ((Rest.alloc W.drew Ie I.elem).trans (Rest.setRow _ _ _))
   have ald:W2.heap.size=W.heap.size+1:=by rw [hW2,setRow_size];exact Array.size_push _
   rw [←hW2] at hB XL
   have hC:=fun ty=>oe (P:=P) (dT:=t) (sT:=t) (ty:=ty) (size:=E.size) (US:=xs.length+ys.length-(i+ys.length)) (XI:=G-(i+ys.length)) (nT:=xs.length-i) (uX:=c0-i) (k:=xs.length-i) (o:=(i+ys.length) *E.size) (a:=⟨g,i *E.size,none⟩) (w:={W2 with drawn:=W2.drawn+1}) hu zf CA XL (by simp only [Nat.min_def];split<;>omega) TA
    (Wh (U1 g Xh)) (by simp only [List.size_toArray];rw [abr,him,TA];omega) Og
   refine (RY hf zf CA hm hnc (by unfold maxLen at IM;omega) (by omega) wU rB hGn hA hB hC).mono ?_
   rintro x wS ⟨rfl,rfl⟩
   refine ⟨_,rfl,?_⟩
   refine Ic (v0:= .slice (some ⟨g,0,none⟩) xs.length c0) (n:=xs.length+ys.length) (cells:=cells.take (i *E.size)++news++cells.drop (i *E.size)) hz mD ql r7 Ia ?_ ?_ ?_ PR ?_ Zs Ed (fun b hb=> .inr (by cases hb;exact Nat.le_refl _))
   ·intro b hb dt
    rw [setRow_other _ _ _ _ (by omega)]
    exact U1 b hb
   ·rw [setRow_size];show W.heap.size≤W2.heap.size;omega
   ·exact XM.trans ((show Rest W2 {W2 with drawn:=W2.drawn+1} from ⟨rfl,rfl,rfl,fun _=>rfl⟩).trans (Rest.setRow _ _ _))
   ·refine ⟨by rw [Ed.length,Zs],.inr ⟨W.heap.size,G,_,rfl,Nat.zero_le _,setRow_heap {W2 with drawn:=W2.drawn+1} W.heap.size RA.toArray _ I.elem (0,0) XL,hGn,hGm,?_,?_⟩⟩
    ·simp only [List.size_toArray,List.length_append,List.length_take,List.length_drop]
     rw [abr,←hRl]
     omega
    ·have af3:RA.take ((i+ys.length) *E.size)=cells.take (i *E.size)++news:=by
      have hl:(Ie.toList.take (i *E.size)++news).length=(i+ys.length) *E.size:=by rw [List.length_append,List.length_take,Array.length_toList,him];omega
      rw [hRA,List.take_append_of_le_length (by omega),List.take_of_length_le (by omega),hRt]
     rw [af3]
     have yt:(cells.take (i *E.size)++news++cells.drop (i *E.size)).length=(xs.length+ys.length) *E.size:=by rw [Ed.length,Zs]
     rw [←yt]
     exact List.take_left
  ·have rB:xs.length+ys.length≤c0:=by omega
   have hcz:eZ.toList.length=eZ.size:=Array.length_toList
   have HH:(xs.length+ys.length) *E.size≤eZ.size:=by rw [xx];exact Nat.mul_le_mul_right _ rB
   have hO:(callFunc fo #[.slice (some ⟨g2,0,none⟩) ys.length c2,.slice (some ⟨g,(i+ys.length) *E.size,none⟩) (xs.length+ys.length-(i+ys.length)) (c0-(i+ys.length))]).run P W= .ok (.value (.bool false)) W:=by
    rw [hov,Lib.run_overlaps_apart W t tb I.elem hu E.size (fun w=>by simp [Go.sizeOf,typeInfo,zf,CA]) ⟨g2,0,none⟩ ⟨g,(i+ys.length) *E.size,none⟩ _ _ _ _ (Ne.symm PU) I.elem I.elem Jo.size eZ.size (by simp [World.shape?,Tw]) (by simp [World.shape?,hgc])
     (by rw [xx];exact Nat.ne_of_gt (Nat.mul_pos (by omega) jx)) (by simp [World.frozen?,Tw]) (by simp [World.frozen?,Tw])]
    rfl
   let R1:List Value:=eZ.toList.take ((i+ys.length) *E.size)++cells.drop (i *E.size)++eZ.toList.drop ((i+ys.length) *E.size+(cells.drop (i *E.size)).length)
   have hR1:R1.length=eZ.size:=by
    simp only [R1,List.length_append,List.length_take,List.length_drop,Array.length_toList]
    rw [TA] at *
    omega
   have hB: ∀ty,(Builtin.copy_ #[t,t] ty #[.slice (some ⟨g,(i+ys.length) *E.size,none⟩) (xs.length+ys.length-(i+ys.length)) (c0-(i+ys.length)),.slice (some ⟨g,i *E.size,none⟩) (xs.length+ys.length-i) (c0-i)]).run P {W with drawn:=W.drawn+1}=
    .ok (goInt ((xs.length-i:Nat):Int)) (World.setRow {W with drawn:=W.drawn+1} g R1.toArray):=fun ty=>
    oe (size:=E.size) hu zf CA (w:={W with drawn:=W.drawn+1}) hgc (by simp only [Nat.min_def];split<;>omega) TA (Wh rfl) (by rw [him,TA];omega) Og
   have af5:(World.setRow {W with drawn:=W.drawn+1} g R1.toArray).heap[g]? =some (.cells R1.toArray I.elem (0,0)):=setRow_heap {W with drawn:=W.drawn+1} g eZ R1.toArray I.elem (0,0) hgc
   have U1: ∀b,b≠g→(World.setRow {W with drawn:=W.drawn+1} g R1.toArray).heap[b]? =W.heap[b]? :=fun b hb=>setRow_other {W with drawn:=W.drawn+1} g b R1.toArray hb
   have hC:=fun ty=>oe (P:=P) (dT:=t) (sT:=t) (ty:=ty) (size:=E.size) (US:=xs.length+ys.length-i) (XI:=c0-i) (nT:=ys.length) (uX:=c2) (k:=ys.length) (o:=i *E.size) (a:=⟨g2,0,none⟩) hu zf CA af5 (by simp only [Nat.min_def];split<;>omega) CV
    (R0 (U1 g2 (Ne.symm PU))) (by simp only [List.size_toArray];rw [hR1];omega) zv.Dv
   refine (RZ hf zf CA hm hnc (by unfold maxLen at IM;omega) (by omega) wU rB hO hB hC).mono ?_
   rintro x wS ⟨rfl,rfl⟩
   refine ⟨_,rfl,?_⟩
   rw [setRow_setRow]
   have xU:Rest W (World.setRow {W with drawn:=W.drawn+1} g (R1.toArray.toList.take (i *E.size)++news++R1.toArray.toList.drop (i *E.size+news.length)).toArray):=abq.trans (Rest.setRow _ _ _)
   refine Ic (v0:= .slice (some ⟨g,0,none⟩) xs.length c0) (n:=xs.length+ys.length) (cells:=cells.take (i *E.size)++news++cells.drop (i *E.size)) hz mD ql r7 Ia ?_ (by simp) xU PR ?_ Zs Ed (fun b hb=> .inl hb)
   ·intro b hb dt
    refine setRow_other {W with drawn:=W.drawn+1} g b _ (fun h=>dt ?_)
    rw [h];rfl
   ·refine ⟨by rw [Ed.length,Zs],.inr ⟨g,c0,_,rfl,Nat.zero_le _,setRow_heap {W with drawn:=W.drawn+1} g eZ _ I.elem (0,0) hgc,rB,IM,?_,?_⟩⟩
    ·simp only [List.size_toArray,List.length_append,List.length_take,List.length_drop]
     rw [hR1,←xx]
     omega
    ·rw [Y9]
     refine U0 (eZ:=eZ.toList) (r:=xs.length *E.size) (by simpa using hR1) rfl pS sU (by simp only [Array.length_toList];omega) ?_ ?_
     ·show R1.take (i *E.size)=_
      rw [←IQ,List.take_take,Nat.min_eq_left sU]
      simp only [R1]
      rw [List.append_assoc,List.take_append_of_le_length (by rw [List.length_take,hcz];omega),List.take_take,Nat.min_eq_left (by omega)]
     ·show (R1.drop (i *E.size+news.length)).take _=_
      simp only [R1]
      have hl:(eZ.toList.take ((i+ys.length) *E.size)).length=i *E.size+news.length:=by rw [List.length_take,hcz];omega
      rw [List.append_assoc,←hl,List.drop_left,List.take_append_of_le_length (by omega),List.take_of_length_le (by omega)]
end
end Dn
/-
  slices.Delete of the library, walked. Conditions: none.
-/
set_option linter.unusedSimpArgs false
set_option linter.unusedVariables false
namespace Dn
open Go
structure ND (o:Oper) (op:Op):Prop where
 dst:o.dst=none
 op:o.op=op
 guard:o.guard=none
section
variable {P:Program} {Q:Exit→Act→World→Prop} {ops:Array Oper} {o:Oper} {a:Act} {w w':World} {n:Nat} {σ:Nat→Value}
def R2 (ops:Array Oper):Nat→Nat→Array Bool→Bool
 |0,i,listed=>(Region.ready .any ops listed==[i])&&(Region.ready .any ops (listed.setIfInBounds i true)==[i+1])&&(Region.ready .any ops ((listed.setIfInBounds i true).setIfInBounds (i+1) true)).isEmpty
 |k+1,i,listed=>Region.free .any ops listed i&&(Region.ready .any ops listed).contains i&&R2 ops k (i+1) (listed.setIfInBounds i true)
def XN (ops:Array Oper):Bool:=Region.noSelect ops&&Nat.blt 1 ops.size&&R2 ops (ops.size-2) 0 (Array.replicate ops.size false)
end
structure af6 (t ti:Nat) (o:Nat→Oper):Prop where
 h0:aP (o 0) 6 (.assign (.const (.slice none 0 0)))
 h1:aP (o 1) 8 (.move (.tmp 0))
 h2:aP (o 2) 9 (.move (.tmp 1))
 h3:aP (o 3) 10 (.move (.tmp 2))
 h4:aP (o 4) 11 (.move (.tmp 0))
 h5:aP (o 5) 12 (.call {callee:= .builtin .len,args:= #[.tmp 11],argTypes:= #[t]})
 h6:aP (o 6) 13 (.slice t (.tmp 8) (some (.tmp 9)) (some (.tmp 10)) (some (.tmp 12)))
 h7:aP (o 7) 14 (.move (.tmp 1))
 h8:aP (o 8) 15 (.move (.tmp 2))
 h9:aP (o 9) 16 (.binOp .eql ti (.tmp 14) (.tmp 15) ti)
 Xr:aP (o 10) 17 (.move (.tmp 0))
 TD:aP (o 11) 6 (.assign (.tmp 17))
 UT:aP (o 12) 18 (.move (.tmp 0))
 UU:aP (o 13) 19 (.call {callee:= .builtin .len,args:= #[.tmp 18],argTypes:= #[t]})
 UW:aP (o 14) 7 (.assign (.tmp 19))
 UX:aP (o 15) 20 (.move (.tmp 0))
 UY:aP (o 16) 21 (.move (.tmp 1))
 h17:aP (o 17) 22 (.slice t (.tmp 20) none (some (.tmp 21)) none)
 h18:aP (o 18) 23 (.move (.tmp 0))
 h19:aP (o 19) 24 (.move (.tmp 2))
 h20:aP (o 20) 25 (.slice t (.tmp 23) (some (.tmp 24)) none none)
 Zm:aP (o 21) 26 (.call {callee:= .builtin .append,args:= #[.tmp 22,.tmp 25],argTypes:= #[t,t]})
 Zn:aP (o 22) 0 (.assign (.tmp 26))
 Zo:aP (o 23) 27 (.move (.tmp 0))
 Zp:aP (o 24) 28 (.move (.tmp 0))
 Zq:aP (o 25) 29 (.call {callee:= .builtin .len,args:= #[.tmp 28],argTypes:= #[t]})
 Zr:aP (o 26) 30 (.move (.tmp 7))
 h27:aP (o 27) 31 (.slice t (.tmp 27) (some (.tmp 29)) (some (.tmp 30)) none)
 h28:ND (o 28) (.call {callee:= .builtin .clear,args:= #[.tmp 31],argTypes:= #[t]})
 h29:aP (o 29) 32 (.move (.tmp 0))
 h30:aP (o 30) 6 (.assign (.tmp 32))
 d5:XN #[o 15,o 16,o 17,o 18,o 19,o 20,o 21,o 22]=true
section
variable {P:Program} {f t ti el:Nat} {fn:Func} {r:Nat→Nat} {o:Nat→Oper} {ie:TypeInfo} {size n c i j g:Nat} {ad:Option Addr} {w:World}
end
section
variable {P:Program} {c:Ctx} {f:Nat}
end
end Dn
/-
  slices.IndexFunc and slices.DeleteFunc of the library, walked, with whatever function. Conditions: none.
-/
set_option linter.unusedSimpArgs false
set_option linter.unusedVariables false
namespace Dn
open Go
section
variable {P:Program} {Q:Exit→Act→World→Prop} {ops:Array Oper} {o:Oper} {a:Act} {w w':World} {n:Nat} {σ:Nat→Value}
theorem Tm.call {i d:Nat} {op:Op} {rest:List Nat} {f:Nat} {args:Array Value} {Rp:Value→World→Prop} (bt:Tm a n σ) (hi:ops[i]? =some o) (ho:aP o d op) (hd:d<n)
 (bW:(execOp (ev σ) o).run P w=(callFunc f args).run P w) (hc:jf P f args w Rp) (h: ∀v w' a',Rp v w'→Tm a' n (IX σ d v)→wpOps P ops Q rest a' w'):wpOps P ops Q (i::rest) a w:=by
 rw [wpOps_cons]
 unfold wpOp
 simp only [hi,Region.wanted,ho.guard,if_true]
 left
 refine zD (by rw [bt.eval];exact bW) hc ?_
 intro v w' hr
 rw [ho.dst]
 exact h v w' _ hr (bt.put hd v)
end
structure af7 (t el ti:Nat) (o:Nat→Oper):Prop where
 h0:aP (o 0) 4 (.assign (.const (.int .i64 0)))
 h1:aP (o 1) 6 (.move (.tmp 0))
 h2:aP (o 2) 7 (.call {callee:= .builtin .len,args:= #[.tmp 6],argTypes:= #[t]})
 h3:aP (o 3) 8 (.move (.const (.int .i64 0)))
 h4:aP (o 4) 9 (.binOp .lss ti (.tmp 8) (.tmp 7) ti)
 h5:aP (o 5) 10 (.move (.tmp 8))
 h6:aP (o 6) 5 (.assign (.tmp 10))
 h7:aP (o 7) 11 (.move (.tmp 1))
 h8:aP (o 8) 12 (.move (.tmp 0))
 h9:aP (o 9) 13 (.move (.tmp 5))
 Xr:aP (o 10) 14 (.indexAddr t (.tmp 12) (.tmp 13))
 TD:aP (o 11) 15 (.load el (.tmp 14))
 UT:aP (o 12) 16 (.call {callee:= .value (.tmp 11),args:= #[.tmp 15],argTypes:= #[el]})
 UU:aP (o 13) 17 (.move (.tmp 5))
 UW:aP (o 14) 4 (.assign (.tmp 17))
 UX:aP (o 15) 18 (.binOp .add ti (.tmp 8) (.const (.int .i64 1)) ti)
 UY:aP (o 16) 8 (.move (.tmp 18))
 h17:aP (o 17) 4 (.assign (.const (.int .i64 (-1))))
section
variable {P:Program} {c:Ctx} {f t ti el:Nat} {fn:Func} {r:Nat→Nat} {o:Nat→Oper} {E:TI} {n cp g0 g:Nat} {ad:Option Addr} {ob:Option Nat} {w:World} {lb:Array Value} {S:Type} {Inv:S→(Nat→Prop)→Ph→World→Prop} {step:S→MV→Option (Bool×S)}
end
end Dn
/-
  slices.DeleteFunc of the library, walked, with whatever function. Conditions: none.
-/
set_option linter.unusedSimpArgs false
set_option linter.unusedVariables false
namespace Dn
open Go
structure adX (t el ti tb fu fi:Nat) (o:Nat→Oper):Prop where
 h0:aP (o 0) 4 (.assign (.const (.slice none 0 0)))
 h1:aP (o 1) 8 (.move (.tmp 0))
 h2:aP (o 2) 9 (.move (.tmp 1))
 h3:aP (o 3) 10 (.call {callee:= .value (.func fi),args:= #[.tmp 8,.tmp 9],argTypes:= #[t,fu]})
 h4:aP (o 4) 5 (.assign (.tmp 10))
 h5:aP (o 5) 11 (.move (.tmp 5))
 h6:aP (o 6) 12 (.binOp .eql ti (.tmp 11) (.const (.int .i64 (-1))) ti)
 h7:aP (o 7) 13 (.move (.tmp 0))
 h8:aP (o 8) 4 (.assign (.tmp 13))
 h9:aP (o 9) 14 (.move (.tmp 5))
 Xr:aP (o 10) 15 (.binOp .add ti (.tmp 14) (.const (.int .i64 1)) ti)
 TD:aP (o 11) 6 (.assign (.tmp 15))
 UT:aP (o 12) 16 (.move (.tmp 6))
 UU:aP (o 13) 17 (.move (.tmp 0))
 UW:aP (o 14) 18 (.call {callee:= .builtin .len,args:= #[.tmp 17],argTypes:= #[t]})
 UX:aP (o 15) 19 (.binOp .lss ti (.tmp 16) (.tmp 18) ti)
 UY:aP (o 16) 22 (.move (.tmp 0))
 h17:aP (o 17) 23 (.move (.tmp 6))
 h18:aP (o 18) 24 (.indexAddr t (.tmp 22) (.tmp 23))
 h19:aP (o 19) 25 (.load el (.tmp 24))
 h20:aP (o 20) 7 (.alloc el)
 Zm:ND (o 21) (.store el (.tmp 7) (.tmp 25))
 Zn:aP (o 22) 26 (.move (.tmp 1))
 Zo:aP (o 23) 27 (.load el (.tmp 7))
 Zp:aP (o 24) 28 (.call {callee:= .value (.tmp 26),args:= #[.tmp 27],argTypes:= #[el]})
 Zq:aP (o 25) 29 (.unOp .not tb (.tmp 28))
 Zr:aP (o 26) 30 (.move (.tmp 0))
 h27:aP (o 27) 31 (.move (.tmp 5))
 h28:aP (o 28) 32 (.load el (.tmp 7))
 h29:aP (o 29) 33 (.indexAddr t (.tmp 30) (.tmp 31))
 h30:ND (o 30) (.store el (.tmp 33) (.tmp 32))
 h31:aP (o 31) 34 (.move (.tmp 5))
 h32:aP (o 32) 35 (.binOp .add ti (.tmp 34) (.const (.int .i64 1)) ti)
 h33:aP (o 33) 5 (.assign (.tmp 35))
 h34:aP (o 34) 20 (.move (.tmp 6))
 h35:aP (o 35) 21 (.binOp .add ti (.tmp 20) (.const (.int .i64 1)) ti)
 h36:aP (o 36) 6 (.assign (.tmp 21))
 h37:aP (o 37) 36 (.move (.tmp 0))
 h38:aP (o 38) 37 (.move (.tmp 5))
 h39:aP (o 39) 38 (.slice t (.tmp 36) (some (.tmp 37)) none none)
 h40:ND (o 40) (.call {callee:= .builtin .clear,args:= #[.tmp 38],argTypes:= #[t]})
 h41:aP (o 41) 39 (.move (.tmp 0))
 h42:aP (o 42) 40 (.move (.tmp 5))
 h43:aP (o 43) 41 (.slice t (.tmp 39) none (some (.tmp 40)) none)
 h44:aP (o 44) 4 (.assign (.tmp 41))
section
variable {P:Program} {c:Ctx} {f fi t ti tb fu el:Nat} {fn fni:Func} {r ri:Nat→Nat} {o oi:Nat→Oper} {E:TI} {cp g0 g:Nat} {ad:Option Addr} {ob:Option Nat} {w W W2:World} {lb:Array Value} {S:Type} {Inv:S→(Nat→Prop)→Ph→World→Prop} {step:S→MV→Option (Bool×S)} {Z0 Z:Nat→Prop} {φ0 φ:Ph} {s:S}
theorem UN.move (hp:D8 P c g lb Inv step) (hW:UN c ob Inv Z0 φ0 w s Z φ W) (qk:W.heap.size≤W2.heap.size) (uI: ∀b,b<W.heap.size→ob≠some b→W2.heap[b]? =W.heap[b]?) (xU:Rest W W2) (hnz: ∀b,ob=some b→ ¬Z b):
 UN c ob Inv Z0 φ0 w s (fun b=>(Z b∧b<W.heap.size)∨W2.heap.size≤b) φ W2:=by
 have hws:=hW.tr.size
 refine ⟨hp.mono (hp.frame hW.inv qk fun b hz hb=>uI b hb (fun e=>hnz b e hz)) fun b hb=> .inl hb,fun b hb=> .inr hb,fun b hb=> ?_,fun b off v hv=> ?_,?_,hW.free⟩
 ·rcases hb with hb|hb
  ·exact hW.sub b hb.1
  ·exact .inr (by omega)
 ·have h1:=hW.nE b off v hv
  have du:=World.block_lt_of_cell? W _ h1
  have dt:ob≠some b:=by intro e;rw [hW.free b off e] at hv;cases hv
  rw [World.cell?_of_block (uI b du dt)]
  exact h1
 ·refine hW.tr.trans ⟨.refl _,fun b hb du=> ?_,fun _ _ _=>rfl,qk,xU⟩
  exact uI b du (fun e=>hb (.inr e))
end
end Dn
/-
  Going through a map, in whatever order; a label at the end of a scope. Conditions: none.
-/
set_option linter.unusedSimpArgs false
set_option linter.unusedVariables false
namespace Dn
open Go
def vL {R:Type} (x:Option (Sum Unit R)):Bool:=match x with|some (.inl _)=>true|_=>false
def tS {α R:Type} (f:α→Option (Sum Unit R)) (d:Option R):List α→Option R
 |[]=>d
 |x::xs=>match f x with
  |some (.inl _)=>tS f d xs
  |some (.inr r)=>bif xs.all fun y=>vL (f y) then some r else none
  |none=>none
structure PV where
 i1:Nat
 o1:Array Oper
 a1:Oper
 b1:Oper
 x:Operand
 d1:Nat
 t:Nat
 d2:Nat
 k:Nat
 i2:Nat
 o2:Array Oper
 a2:Oper
 r2:List Oper
 cx:Operand
 kx:Nat
 k5:Nat
 i3:Nat
 o3:Array Oper
 a3:Oper
 r3:List Oper
 rest:Code
def PV.body (q:PV):Code:= .seq (.region q.i2 q.o2 false) (.seq (.cond q.cx .skip (.exit q.kx)) (.block q.k5 (.seq (.region q.i3 q.o3 false) q.rest)))
def PV.code (q:PV):Code:= .seq (.region q.i1 q.o1 false) (.block q.k (.loop q.body))
def isNone {α:Type}:Option α→Bool
 |none=>true
 |some _=>false
def abu (o:Oper):Option Operand:=match o.op with| .move x=>some x|_=>none
def abv (o:Oper) (d:Nat):Option Nat:=match o.op with| .range t (.tmp y)=>bif Nat.beq y d then some t else none|_=>none
def XO (o:Oper) (d:Nat):Bool:=match o.op with| .next (.tmp y) false=>Nat.beq y d|_=>false
def XP (o:Oper) (d:Nat):Bool:=match o.op with| .entry (.tmp y)=>Nat.beq y d|_=>false
def NE (code:Code):Option PV:=match code with
 | .seq (.region i1 o1 false) (.block k (.loop (.seq (.region i2 o2 false) (.seq (.cond cx .skip (.exit kx)) (.block k5 (.seq (.region i3 o3 false) rest))))))=>
  (match o1.toList,o2.toList,o3.toList with
  |[a1,b1],a2::r2,a3::r3=>(match abu a1,a1.dst,b1.dst with
   |some x,some d1,some d2=>(match abv b1 d1 with
    |some t=>bif XO a2 d2&&(XP a3 d2&&(isNone a1.guard&&(isNone b1.guard&&(isNone a2.guard&&isNone a3.guard)))) then
     some ⟨i1,o1,a1,b1,x,d1,t,d2,k,i2,o2,a2,r2,cx,kx,k5,i3,o3,a3,r3,rest⟩ else none
    |none=>none)
   |_,_,_=>none)
  |_,_,_=>none)
 |_=>none
def L3 {R:Type} (m:MV) (K:List UInt8→Int→Option R):Option R:=
 gT m fun l=>gC l fun ka r=>gA ka fun ks=>gC ks fun k0 kr=>gN kr<|gS k0 fun key=>gC r fun v0 vr=>gN vr<|gI .i64 v0 fun n=>K key n
noncomputable def U2 (c:Ctx) (q:PV) (st:St) (m:MV):Option (Sum Unit (Nat×List MV)):=
 L3 m fun key n=>bc c st q.a2.dst (.dr [.sc (.p (.b true)),.sc (.p (.s key)),.sc (.p (.i .i64 n))]) fun st=>yo c q.o2.toList q.r2 st fun st=>(match aH c st q.cx with
  | .sc (.p (.b true))=>bc c st q.a3.dst (.dr [.sc (.p (.s key)),.sc (.p (.i .i64 n))]) fun st=>yo c q.o3.toList q.r3 st fun st=>
   ju c q.rest (Sum Unit (Nat×List MV)) st fun e st=>bif Nat.beq e 0||Nat.beq e (q.k5+2) then some (.inl ()) else lk st [] ((c.sF q.i2).ex e) fun vs=>some (.inr (e,vs))
  |_=>none)
def XQ (c:Ctx) (q:PV) (st:St):Option (Nat×List MV):=
 bc c st q.a2.dst (.dr [.sc (.p (.b false))]) fun st=>yo c q.o2.toList q.r2 st fun st=>(match aH c st q.cx with
  | .sc (.p (.b false))=>lk st [] ((c.sF q.i2).ex (q.kx+2)) fun vs=>some (q.kx+2,vs)
  |_=>none)
noncomputable def XR (c:Ctx) (q:PV) {R:Type} (st:St) (K:Nat→St→Option R):Option R:=
 bc c st (some q.d1) (aH c st q.x) fun st=>match aH c st (.tmp q.d1),r4 c q.t with
  | .vp root,some s0=>(match ap st.fr root with
   | .box [.mp s _]=>bif vm root||!VA s s0 then none else
    bc c st (some q.d2) (.sc .un) fun st=>AY c (c.sF q.i2) st fun _ cS=>(match (c.sF q.i2).outs,ap cS.fr root with
     |[],.box [.mp s2 es]=>bif s2.st||(!zm s2.lay [.s]||(s2.b||!bp cS.b9 q.d2)) then none else
      bd (tS (U2 c q cS) (XQ c q cS) es) fun r=>N5 (minus (jH q.body) [0]) r.1 fun e=>lF (tC st cS) ((c.sF q.i2).ex e) r.2 fun st=>K (bif Nat.beq e (q.k+2) then 0 else e) st
     |_,_=>none)
   |_=>none)
  |_,_=>none
def R3 (a b:Code):Option Nat:=match a,b with
 | .goto l,.skip=>some l
 |_,_=>none
noncomputable def Ee (c:Ctx) {R:Type} (l:Nat) (G:St→Option R):Code→St→(Nat→St→Option R)→Option R
 | .seq a b,st,K=>Ee c l G a st fun e st=>bif Nat.beq e 0 then Ee c l G b st K else K e st
 | .cond x a b,st,K=>(match R3 a b with
  |some l'=>bif Nat.beq l' l then (match aH c st x with| .sc (.p (.b v))=>bk v (G st) (K 0 st)|_=>none) else none
  |none=>ju c (.cond x a b) R st K)
 | .label _,st,K=>K 0 st
 |code,st,K=>ju c code R st K
noncomputable def B5 (c:Ctx) {R:Type}:Code→St→(Nat→St→Option R)→Option R
 | .seq a b,st,K=>(match NE a with
  |some q=>XR c q st fun e st=>bif Nat.beq e 0 then B5 c b st K else K e st
  |none=>ju c a R st fun e st=>bif Nat.beq e 0 then B5 c b st K else K e st)
 | .scope b,st,K=>(match findLabel b 0 with
  |some rest=>Ee c 0 (fun st=>ju c rest R st K) b st K
  |none=>none)
 |code,st,K=>ju c code R st K
noncomputable def J0 (c:Ctx) (cG:List (List Kd)) (fresh:Option Nat) (f:Func) (args:List MV):Option MV:=M1 (fun b st K=>B5 c b st K) c cG fresh f args
theorem J3 {α R:Type} {f:α→Option (Sum Unit R)} {d:Option R} {r:R}: ∀{es:List α},tS f d es=some r→(∀m∈es,f m=some (.inl ())∨f m=some (.inr r))∧((∀m∈es,f m=some (.inl ()))→d=some r):=by
 intro es
 induction es with
 |nil=>intro h;exact ⟨by simp,fun _=>h⟩
 |cons x xs ih=>
  intro h
  simp only [tS] at h
  split at h
  ·rename_i u hx
   obtain ⟨h1,h2⟩:=ih h
   refine ⟨fun m hm=> ?_,fun hm=>h2 fun m hx=>hm m (List.mem_cons_of_mem _ hx)⟩
   rcases List.mem_cons.1 hm with rfl|hm
   ·exact .inl hx
   ·exact h1 m hm
  ·rename_i r' hx
   cases ha:xs.all fun y=>vL (f y) with
   |false=>rw [ha] at h;cases h
   |true=>
    rw [ha] at h
    simp only [cond_true,Option.some.injEq] at h
    subst h
    refine ⟨fun m hm=> ?_,fun hm=> ?_⟩
    ·rcases List.mem_cons.1 hm with rfl|hm
     ·exact .inr hx
     ·rw [List.all_eq_true] at ha
      have:=ha m hm
      unfold vL at this
      split at this
      ·rename_i u hu;exact .inl hu
      ·cases this
    ·have:=hm x (by simp)
     rw [hx] at this;cases this
  ·cases h
section
variable {P:Program} {c:Ctx} {Z Zb Zi:bB} {e e' e3:Env} {st bL iU B:St} {a a':Act} {w w':World} {R:Type} {r:R} {Q:Exit→Act→World→Prop} {o:Oper} {hn:mI}
def bB.cv (Z:bB) (g:Nat):bB:={Z with In:=fun b=>Z.In b∧b≠g}
theorem iW.abw {g:Nat} (j:iW c Zb Zi e B hn a w) (hg:g<w.heap.size):iW c Zb (Zi.cv g) e B hn a w:=
 ⟨j.rD,fun b hb=>j.sub b hb.1,fun b hb=>⟨j.new b hb,by omega⟩,j.b9,j.T,j.keys,fun t cs ht hz=>j.box t cs ht hz.1,fun f o b ho hb hz=>j.gp f o b ho hb hz.1,j.Rj,j.OH,j.ptr,j.PT⟩
theorem iW.Wi {g:Nat} (j:iW c Zi Zi e B hn a w) (hg:g<w.heap.size):bP c (Zi.cv g) e B a w:=by
 have h:=j.rD
 have hm:e.m=B.aV:=h.m
 have:=h.sub (Zi:=Zi.cv g) (bL:=B) (fun _ h=>h) ⟨h.defers.2.1,h.defers.2.2.1,h.defers.2.2.2⟩ h.nodup (fun t=> .inr ⟨j.ptr t,.inl rfl⟩) (fun f o ho=>⟨o,ho,rfl,rfl,id⟩)
  (by
   intro t cs ht
   have hs:=h.slot t
   rw [ht] at hs
   rcases hs.2.cc with h1|h1
   ·exact .inl h1
   ·exact absurd h1 (j.box t cs ht))
  (by
   intro f o b ho hb
   obtain ⟨I,cells,_,_,_,_,g5⟩:=(h.gp f o ho).row
   rcases (g5 b hb).1 with h1|h1
   ·exact .inl h1
   ·exact absurd h1 (j.gp f o b ho hb))
  (by
   intro f o I cells b ho hp hz hI eB hb k hk
   obtain ⟨I',HI,g1,_,g3,_,g5⟩:=(h.gp f o ho).row
   rw [hI] at g1
   cases g1
   rw [rv eB g3 hb] at hk⊢
   exact (g5 b hb).2.2 hp hz k hk)
  (fun b hb=>⟨j.new b hb,by omega⟩)
 have he:{e with m:=B.aV}=e:=by cases e;simp at hm⊢;exact hm.symm
 rw [he] at this
 exact this
theorem Ig {d:Nat} {s:Slot} {K:St→Option R} (hK:bc c st (some d) s K=some r):cB (ap st.fr d)=false∧d∉st.b9∧d<c.n:=by
 simp only [bc] at hK
 cases xL:vm d||(Nat.ble c.n d||cB (ap st.fr d)) with
 |true=>simp [xL] at hK
 |false=>
  obtain ⟨_,hb⟩:=Bool.or_eq_false_iff.1 xL
  obtain ⟨sP,sH⟩:=Bool.or_eq_false_iff.1 hb
  simp only [xL,cond_false,wr] at hK
  cases hp:bp st.b9 d with
  |true=>simp [hp] at hK
  |false=>
   refine ⟨sH,fun hm=> ?_,?_⟩
   ·rw [←bH,hp] at hm;cases hm
   ·by_cases hh:d<c.n
    ·exact hh
    ·rw [Nat.ble_eq_true_of_le (by omega)] at sP;cases sP
theorem L4 {code:Code} {q:PV} (h:NE code=some q):code=q.code∧q.o1.toList=[q.a1,q.b1]∧q.o2.toList=q.a2::q.r2∧q.o3.toList=q.a3::q.r3∧q.a1.op= .move q.x∧q.a1.dst=some q.d1∧
 q.b1.op= .range q.t (.tmp q.d1)∧q.b1.dst=some q.d2∧q.a2.op= .next (.tmp q.d2) false∧q.a3.op= .entry (.tmp q.d2)∧q.a1.guard=none∧q.b1.guard=none∧q.a2.guard=none∧q.a3.guard=none:=by
 have hN: ∀{α:Type} {x:Option α},isNone x=true→x=none:=by intro α x hx;cases x<;>first|rfl|cases hx
 unfold NE at h
 split at h
 ·rename_i i1 o1 k i2 o2 cx kx k5 i3 o3 rest
  split at h
  ·rename_i a1 b1 a2 r2 a3 r3 e1 e2 e3
   split at h
   ·rename_i x d1 d2 g1 g2 g3
    split at h
    ·rename_i t g4
     cases hb:XO a2 d2&&(XP a3 d2&&(isNone a1.guard&&(isNone b1.guard&&(isNone a2.guard&&isNone a3.guard)))) with
     |false=>rw [hb] at h;cases h
     |true=>
      rw [hb] at h
      simp only [cond_true,Option.some.injEq] at h
      subst h
      simp only [Bool.and_eq_true] at hb
      obtain ⟨k1,k2,k3,k4,k5',k6⟩:=hb
      refine ⟨rfl,e1,e2,e3,?_,g2,?_,g3,?_,?_,hN k3,hN k4,hN k5',hN k6⟩
      ·unfold abu at g1
       split at g1
       ·rename_i y hy;cases g1;exact hy
       ·cases g1
      ·unfold abv at g4
       split at g4
       ·rename_i t' y hy
        cases hyd:Nat.beq y d1 with
        |false=>rw [hyd] at g4;cases g4
        |true=>
         rw [hyd] at g4
         simp only [cond_true,Option.some.injEq] at g4
         subst g4
         rw [hy,Nat.eq_of_beq_eq_true hyd]
       ·cases g4
      ·unfold XO at k1
       split at k1
       ·rename_i y hy;rw [hy,Nat.eq_of_beq_eq_true k1]
       ·cases k1
      ·unfold XP at k2
       split at k2
       ·rename_i y hy;rw [hy,Nat.eq_of_beq_eq_true k2]
       ·cases k2
    ·cases h
   ·cases h
  ·cases h
 ·cases h
theorem L5 {g:Nat} {φ:Ph} {w1:World} {o o':Obj} (hz:Zi.In g) (hw:w1=w∨w1=w.drew) (ho:w.heap[g]? =some o) (hf: ∀x y z,o≠ .cells x y z) (Tu: ∀x y z,o'≠ .cells x y z):Trans Zi.In φ w φ (ChangeMaps.setBlock w1 g o'):=by
 have hh:w1.heap=w.heap:=by rcases hw with rfl|rfl<;>rfl
 refine ⟨.refl _,fun b hb hl=> ?_,fun _ _ _=>rfl,?_,?_⟩
 ·simp only [ChangeMaps.setBlock,hh]
  rw [Array.getElem?_setIfInBounds_ne (by intro he;subst he;exact hb hz)]
 ·simp [ChangeMaps.setBlock,hh]
 ·refine ⟨by rcases hw with rfl|rfl<;>rfl,by rcases hw with rfl|rfl<;>rfl,by rcases hw with rfl|rfl<;>rfl,fun x=> ?_⟩
  unfold World.frozen?
  by_cases hx:x.block=g
  ·have hl:=bo ho
   have e1:(ChangeMaps.setBlock w1 g o').heap[x.block]? =some o':=by rw [hx];simp [ChangeMaps.setBlock,hh,hl]
   rw [e1,hx,ho]
   cases o<;>cases o'<;>first|rfl|(exfalso;exact hf _ _ _ rfl)|(exfalso;exact Tu _ _ _ rfl)
  ·have e1:(ChangeMaps.setBlock w1 g o').heap[x.block]? =w.heap[x.block]? :=by
    simp only [ChangeMaps.setBlock,hh]
    rw [Array.getElem?_setIfInBounds_ne (Ne.symm hx)]
   rw [e1]
end
end Dn
/-
  Going through a map, in whatever order: it does what is said. Conditions: none.
-/
set_option linter.unusedSimpArgs false
set_option linter.unusedVariables false
namespace Dn
open Go
section
variable {P:Program} {c:Ctx} {Z Zb Zi:bB} {e e' e3:Env} {st bL iU B:St} {a a':Act} {w w':World} {R:Type} {r:R} {Q:Exit→Act→World→Prop} {o:Oper} {hn:mI}
theorem GV {ops:Array Oper} {i:Nat} {nx:Act→World→Prop} (hi:ops[i]? =some o) (hg:o.guard=none) (h:o.wp P a w nx Q):wpOp P ops Q i nx a w:=by
 unfold wpOp
 simp only [hi]
 have:Region.wanted o (yielded ops a.tmps)=true:=by unfold Region.wanted;rw [hg]
 rw [this]
 simp only [if_true]
 exact .inl h
theorem zT {id:Nat} {ops:Array Oper} {l:List Oper} {nx:Act→World→Prop} (hl:ops.toList=o::l) (hg:o.guard=none) (h:o.wp P a w nx Q)
 (hn: ∀a' w',nx a' w'→wpOps P ops Q ((List.range l.length).map (· +1)) a' w'):(Code.region id ops false).wp P Q a w:=by
 refine wp_region ?_
 have hs:ops.size=l.length+1:=by rw [←Array.length_toList,hl];rfl
 rw [hs,List.range_succ_eq_map,wpOps_cons]
 have h0:ops[0]? =some o:=by rw [←Array.getElem?_toList,hl];rfl
 exact wpOp_mono hn (GV h0 hg h)
theorem Ef {ops:Array Oper} {l:List Oper} (hl:ops.toList=o::l):((List.range l.length).map (· +1)).map (ops[·]?)=l.map some:=by
 apply List.ext_getElem?
 intro i
 simp only [List.getElem?_map]
 by_cases hi:i<l.length
 ·have:ops[i+1]? =l[i]? :=by rw [←Array.getElem?_toList,hl];rfl
  simp [List.getElem?_range hi,this,hi]
 ·have h1:(List.range l.length)[i]? =none:=by simp;omega
  have h2:l[i]? =none:=by simp;omega
  rw [h1,h2];rfl
def bB.wd (Z:bB) (g:Nat):bB:={Z with In:=fun b=>Z.In b∨b=g}
theorem Eg {g:Nat} {m:Option Nat} {s:Nat} {seen:Array Nat} {k:Nat} (h:bP c Z e st a w) (hg:w.heap[g]? =some (.mapIter m s seen k)):
 (∀t cs,ap st.fr t= .box cs→e.B t≠g)∧(∀f o,aL st.aV f=some o→(e.E f).ownBlock≠some g):=by
 refine ⟨fun t cs ht he=> ?_,fun f o ho he=> ?_⟩
 ·have hs:=h.slot t
  rw [ht] at hs
  obtain ⟨ob,h1,h2⟩:=hs.2.obj
  rw [he,hg] at h1
  cases h1
  exact h2.elim
 ·obtain ⟨I,cells,_,_,h3,_⟩:=(h.gp f o ho).row
  rcases h3.2 with ⟨h1,_⟩|⟨g',cap,eZ,h1,_,h2,_⟩
  ·rw [h1] at he;cases he
  ·rw [h1] at he
   simp only [Value.ownBlock,Option.some.injEq] at he
   subst he
   rw [hg] at h2;cases h2
theorem iW.wide {g:Nat} {m:Option Nat} {s:Nat} {seen:Array Nat} {k:Nat} (j:iW c Zb Zi e B hn a w) (hz:Zb.In g) (hg:w.heap[g]? =some (.mapIter m s seen k)):iW c Zb (Zi.wd g) e B hn a w:=by
 obtain ⟨h1,h2⟩:=Eg j.rD hg
 exact ⟨j.rD,fun b hb=>hb.elim (j.sub b) (fun he=>by rw [he];exact hz),fun b hb=> .inl (j.new b hb),j.b9,j.T,j.keys,fun t cs ht hz=>hz.elim (j.box t cs ht) (h1 t cs ht),fun f o b ho hb hz=>hz.elim (j.gp f o b ho hb) (fun he=>h2 f o ho (by rw [hb,he])),j.Rj,j.OH,j.ptr,j.PT⟩
theorem iW.aga {g:Nat} (j:iW c Zi Zi e B hn a w):bP c (Zi.wd g) e B a w:=by
 have h:=j.rD
 have hm:e.m=B.aV:=h.m
 have:=h.sub (Zi:=Zi.wd g) (bL:=B) (fun _ h=>h) ⟨h.defers.2.1,h.defers.2.2.1,h.defers.2.2.2⟩ h.nodup (fun t=> .inr ⟨j.ptr t,.inl rfl⟩) (fun f o ho=>⟨o,ho,rfl,rfl,id⟩)
  (by
   intro t cs ht
   have hs:=h.slot t
   rw [ht] at hs
   rcases hs.2.cc with h1|h1
   ·exact .inl h1
   ·exact .inr (.inl h1))
  (by
   intro f o b ho hb
   obtain ⟨I,cells,_,_,_,_,g5⟩:=(h.gp f o ho).row
   rcases (g5 b hb).1 with h1|h1
   ·exact .inl h1
   ·exact .inr (.inl h1))
  (by
   intro f o I cells b ho hp hz hI eB hb k hk
   obtain ⟨I',HI,g1,_,g3,_,g5⟩:=(h.gp f o ho).row
   rw [hI] at g1
   cases g1
   rw [rv eB g3 hb] at hk⊢
   exact (g5 b hb).2.2 hp hz k hk)
  (fun b hb=> .inl (j.new b hb))
 have he:{e with m:=B.aV}=e:=by cases e;simp at hm⊢;exact hm.symm
 rw [he] at this
 exact this
theorem iW.abx {g:Nat} {m:Option Nat} {s:Nat} {seen:Array Nat} {k:Nat} (j:iW c Zi Zi e B hn a w) (hg:w.heap[g]? =some (.mapIter m s seen k)):iW c (Zi.wd g) (Zi.wd g) e B hn a w:=by
 obtain ⟨h1,h2⟩:=Eg j.rD hg
 exact ⟨j.aga,fun b hb=>hb,fun b hb=> .inl (j.new b hb),j.b9,j.T,j.keys,fun t cs ht hz=>hz.elim (j.box t cs ht) (h1 t cs ht),fun f o b ho hb hz=>hz.elim (j.gp f o b ho hb) (fun he=>h2 f o ho (by rw [hb,he])),j.Rj,j.OH,j.ptr,j.PT⟩
theorem yF {k n:Nat} (h:Q (jK (bif Nat.beq n (k+2) then 0 else n)) a w):Exit.inBlock k Q (jK n) a w:=by
 by_cases hk:n=k+2
 ·subst hk
  simp only [dD,decide_true,cond_true] at h
  simpa [jK,Exit.inBlock] using h
 ·simp only [dD,hk,decide_false,cond_false] at h
  match n,hk,h with
  |0,_,h=>exact h
  |1,_,h=>exact h
  |i+2,hk,h=>
   have hi:i≠k:=fun he=>hk (by rw [he])
   simpa [jK,Exit.inBlock,hi] using h
theorem Ih {α:Type} {l:List α} {i:Nat} {x:α} (h:l[i]? =some x):x∈l:=List.mem_of_getElem? h
theorem XS (hG:Good P c) (hD:DR P c) {q:PV} {code:Code} (hq:NE code=some q) {K:Nat→St→Option R} (h:bP c Z e st a w) (hK:XR c q st K=some r)
 (hQ: ∀n e' bL a' w',bP c Z e' bL a' w'→Trans Z.In e.φ w e'.φ w'→K n bL=some r→Q (jK n) a' w'):code.wp P Q a w:=by
 obtain ⟨rfl,l1,l2,l3,m1,m2,m3,m4,m5,m6,g1,g2,g3,g4⟩:=L4 hq
 unfold XR at hK
 unfold PV.code
 refine wp_seq ?_
 obtain ⟨hx,hrx⟩:=h.eval q.x
 refine zT l1 g1 (fin (v:=a.eval q.x) (s:=aH c st q.x) (by simp [execOp,m1]) h (.refl _ _ _) (.of hx hrx) (by rw [m2];exact hK)) ?_
 rintro a1 w1 ⟨e1,ca,h1,t1,lI⟩
 try dsimp only at lI
 obtain ⟨Jk,_⟩:=h1.eval (.tmp q.d1)
 split at lI
 ·rename_i root s0 UA hs0
  rw [UA] at Jk
  split at lI
  ·rename_i s es0 pM
   cases hp:vm root||!VA s s0 with
   |true=>rw [hp] at lI;cases lI
   |false=>
    rw [hp] at lI
    simp only [cond_false] at lI
    simp only [Bool.or_eq_false_iff,Bool.not_eq_false'] at hp
    obtain ⟨xP,Nk⟩:=hp
    have Nk:=LA Nk
    subst Nk
    have hit:=Nn hs0
    simp only [ae] at Jk
    have kT:=h1.slot root
    rw [pM] at kT
    obtain ⟨ob,Og,cm⟩:=kT.2.obj
    obtain ⟨arr,clock,rfl,sG⟩: ∃arr clock,ob= .map arr clock∧oO s arr clock es0:=by
     cases ob with
     |cells x y z=>exact absurd cm.2.vD (by simp [fa])
     |map arr clock=>
      obtain ⟨s2,ms2,k1,k2,k3⟩:=cm
      simp only [List.cons.injEq,aE.mp.injEq,and_true] at k1
      obtain ⟨rfl,rfl⟩:=k1
      exact ⟨arr,clock,rfl,k3⟩
     |stringIter b pos=>
      have k1:[aE.mp s es0]=[aE.mp MS.it _]:=cm
      simp only [List.cons.injEq,aE.mp.injEq,and_true] at k1
      rw [k1.1] at hit;cases hit
     |_=>exact cm.elim
    obtain ⟨kt,el,iR,_⟩:=(hG.mt q.t s hs0).row
    have bW:=run_range_map (P:=P) w1 q.t kt el (e1.B root) arr clock iR Og
    obtain ⟨TR,hnp,du⟩:=Ig lI
    have dt:root≠q.d2:=by intro he;rw [←he,pM] at TR;cases TR
    have K1:dC w1 (w1.alloc (.mapIter (some (e1.B root)) clock #[] clock)):=by
     refine ⟨by simp,fun k hk=>oc w1 _ k hk,⟨rfl,rfl,rfl,fun x=> ?_⟩⟩
     by_cases hx:x.block=w1.heap.size
     ·have e1':(w1.alloc (.mapIter (some (e1.B root)) clock #[] clock)).heap[x.block]? =some (.mapIter (some (e1.B root)) clock #[] clock):=by rw [hx];exact iu w1 _
      have e2:w1.heap[x.block]? =none:=by rw [hx];simp
      simp [World.frozen?,e1',e2]
     ·exact World.frozen?_alloc_old _ _ _ hx
    rw [List.length_singleton]
    show wpOps P q.o1 _ [1] a1 w1
    rw [wpOps_cons]
    have sU:q.o1[1]? =some q.b1:=by rw [←Array.getElem?_toList,l1];rfl
    refine GV sU g2 ?_
    unfold Oper.wp
    have hex:(execOp a1.eval q.b1).run P w1= .ok (.value (.pointer (some ⟨w1.heap.size,0,none⟩))) (w1.alloc (.mapIter (some (e1.B root)) clock #[] clock)):=by
     simp [execOp,m3,Jk,bW,Result.andThen]
    rw [hex,Oper.upon_value,m4]
    obtain ⟨e2,cS,h2,tu,hφ2⟩:=cU (v:= .pointer (some ⟨w1.heap.size,0,none⟩)) (s:= .sc .un) (h1.grow K1) (by simp [nS,ae,cg]) lI
    have DM:(a1.put (some q.d2) (.pointer (some ⟨w1.heap.size,0,none⟩))).tmps.getD q.d2 undef= .pointer (some ⟨w1.heap.size,0,none⟩):=by
     rw [Act.vB (by rw [h1.size];exact du),if_pos rfl]
    have hto: ∀t,t≠q.d2→(a1.put (some q.d2) (.pointer (some ⟨w1.heap.size,0,none⟩))).tmps.getD t undef=a1.tmps.getD t undef:=fun t ht=>by
     rw [Act.vB (by rw [h1.size];exact du),if_neg ht]
    generalize a1.put (some q.d2) (.pointer (some ⟨w1.heap.size,0,none⟩))=a2 at h2 DM hto⊢
    have U3:(w1.alloc (.mapIter (some (e1.B root)) clock #[] clock)).heap[w1.heap.size]? =some (.mapIter (some (e1.B root)) clock #[] clock):=iu w1 _
    have Wj:(w1.alloc (.mapIter (some (e1.B root)) clock #[] clock)).heap[e1.B root]? =some (.map arr clock):=by rw [oc w1 _ _ (bo Og)];exact Og
    have agb:Z.In w1.heap.size:=h1.cc _ (Nat.le_refl _)
    have t12:Trans Z.In e.φ w e2.φ (w1.alloc (.mapIter (some (e1.B root)) clock #[] clock)):=by rw [hφ2];exact t1.trans (K1.trans h1.cc _)
    have XT:a1.tmps.getD root undef= .map (some (e1.B root)):=by
     have:=kT.1.1 xP
     rw [this];simp [Df,kh,hit]
    generalize hbq:e1.B root=bm at *
    generalize hiq:w1.heap.size=ib at *
    generalize w1.alloc (.mapIter (some bm) clock #[] clock)=w2 at *
    clear bW hex K1 Og
    show (Code.block q.k (.loop q.body)).wp P Q a2 w2
    refine wp_block (wp_loop_rounds (arr.size+1) ?_)
    generalize hhn:c.sF q.i2=hn at tu
    obtain ⟨Zi,e3,e4,iU,JD,h3,t3,hφ,hk,j1,j2,jy,LS,Jr⟩:=zH h2 tu
    split at Jr
    ·rename_i s2 es ai4 Wk
     cases Dk:s2.st||(!zm s2.lay [.s]||(s2.b||!bp JD.b9 q.d2)) with
     |true=>rw [Dk] at Jr;cases Jr
     |false=>
      rw [Dk] at Jr
      simp only [cond_false] at Jr
      simp only [Bool.or_eq_false_iff,Bool.not_eq_false'] at Dk
      obtain ⟨c1,c2,c3,c4⟩:=Dk
      have c2:=Nh c2
      obtain ⟨⟨n,ms⟩,hR,Ty⟩:=pO Jr
      have Ty:=DQ Ty
      obtain ⟨oR,JS⟩:=J3 hR
      have hd2:q.d2∈Zi.b9:=by rw [←j2.rD.defers.2.1];exact (bH _ _).1 c4
      have hTd:Zi.T q.d2= .pointer (some ⟨ib,0,none⟩):=by rw [←j2.T _ hd2];exact DM
      have hs4:=j2.rD.slot root
      rw [Wk] at hs4
      have age:zl s2=false:=by simp [zl,c2]
      have hb4:e4.B root=bm:=by
       have:=hs4.1.1 xP
       rw [hto root dt,XT] at this
       simp [Df,kh,age] at this
       exact this.symm
      have hm4:oO s2 arr clock es:=by
       obtain ⟨ob,k1,k2⟩:=hs4.2.obj
       rw [hb4,Wj] at k1
       cases k1
       obtain ⟨s3,ms3,k3,_,k4⟩:=k2
       simp only [List.cons.injEq,aE.mp.injEq,and_true] at k3
       obtain ⟨rfl,rfl⟩:=k3
       exact k4
      have hnz: ¬Zi.In bm:=by have:=j2.box root _ Wk;rwa [hb4] at this
      have hbi:bm≠ib:=by intro he;rw [he,U3] at Wj;cases Wj
      have NF: ∀(i:Nat) (x:MapEntry),arr[i]? =some x→x.born=i∧ ∃m,es[i]? =some m∧Qt s2 x m i:=by
       intro i x hx
       have hi:i<es.length:=by rw [←hm4.size];exact (Array.getElem?_eq_some_iff.1 hx).1
       have he:=hm4.Ts i x es[i] hx (List.getElem?_eq_getElem hi)
       exact ⟨he.1,es[i],List.getElem?_eq_getElem hi,he⟩
      have hold: ∀x∈arr.toList,x.born<clock:=by
       intro x hx
       obtain ⟨i,hi,he⟩:=List.mem_iff_getElem.1 hx
       have Gr:arr[i]? =some x:=by rw [←Array.getElem?_toList,List.getElem?_eq_getElem hi,he]
       rw [(NF i x Gr).1,hm4.clock,←hm4.size]
       simpa using hi
      have VL:(arr.toList.map (·.born)).Nodup:=by
       have:arr.toList.map (·.born)=List.range arr.toList.length:=by
        apply List.ext_getElem?
        intro i
        rw [List.getElem?_map]
        by_cases hi:i<arr.toList.length
        ·rw [List.getElem?_eq_getElem hi,List.getElem?_range hi]
         have Gr:arr[i]? =some arr.toList[i]:=by rw [←Array.getElem?_toList,List.getElem?_eq_getElem hi]
         simp only [Option.map_some,(NF i _ Gr).1]
        ·rw [List.getElem?_eq_none (by omega),List.getElem?_eq_none (by simp at hi⊢;omega)];rfl
       rw [this];exact List.nodup_range
      have hzw:(Zi.wd ib).b9=Zi.b9:=rfl
      have key: ∀(k:Nat) (φ:Ph) (a:Act) (w:World) (seen:Array Nat),iW c Z (Zi.wd ib) {e4 with φ:=φ} (tC cS JD) hn a w→iW c (Zi.wd ib) (Zi.wd ib) {e4 with φ:=φ} JD hn a w→
       Trans Z.In e2.φ w2 φ w→w.heap[ib]? =some (.mapIter (some bm) clock seen clock)→w.heap[bm]? =some (.map arr clock)→
       (∀b∈seen.toList,∃m,es[b]? =some m∧U2 c q JD m=some (.inl ()))→(leftOf arr seen).size<k→Code.rounds P q.body (Exit.inBlock q.k Q) k a w:=by
       intro k
       induction k with
       |zero=>intro φ a w seen _ _ _ _ _ _ hl;omega
       |succ k ih=>
        intro φ a w seen j1 j2 t0 U3 Wj Wl hl
        have XU:=bo U3
        have ali:=bo Wj
        have Cw:a.tmps.getD q.d2 undef= .pointer (some ⟨ib,0,none⟩):=by rw [j2.T _ hd2];exact hTd
        have leave: ∀(n':Nat) (e6:Env) (V4:St) (a6:Act) (w6:World) (w':World) (vs:List MV),iW c Z (Zi.wd ib) {e4 with φ:=φ} (tC cS JD) hn a w'→Trans Z.In e2.φ w2 φ w'→ib<w'.heap.size→
         bP c ((Zi.wd ib).cv ib) e6 V4 a6 w6→Trans ((Zi.wd ib).cv ib).In φ w' e6.φ w6→TO V4 [] (hn.ex n') vs→(n',vs)=(n,ms)→Exit.inBlock q.k Q (jK n') a6 w6:=by
         intro n' e6 V4 a6 w6 w' vs jj tt A3 h6 t6 hT gu
         cases gu
         have jl:=(jj.abw A3).later t6 h6.nE h6.defers.1 h6.size h6.defers.2.2.2
         obtain ⟨s1,s2,s3⟩:=H2 (hn:=hn) (e:=n)
         obtain ⟨e7,st7,q1,q2,q3⟩:=zI jl h6 rfl ⟨s1,s2⟩ (s3 LS) hT Ty
         refine yF (hQ _ e7 st7 a6 w6 q1 ?_ q3)
         rw [q2]
         exact t12.trans (tt.trans (t6.sup fun b hb=>jj.sub b hb.1))
        rw [rounds_succ]
        unfold PV.body
        refine wp_seq ?_
        rcases run_next_at (P:=P) w q.a2.type ib bm clock clock seen arr clock U3 Wj hold (Nat.le_refl _) with ⟨hz,hnx⟩|⟨x,hxm,XV,hw1,hnx⟩
        ·have hD1:XQ c q JD=some (n,ms):=by
          refine JS fun m hm=> ?_
          obtain ⟨i,hi,he⟩:=List.mem_iff_getElem.1 hm
          have hia:i<arr.size:=by rw [hm4.size];exact hi
          have Gr:arr[i]? =some arr[i]:=Array.getElem?_eq_getElem hia
          have hs:=all_seen arr seen hz arr[i] (by simp)
          rw [(NF i _ Gr).1] at hs
          obtain ⟨m',k1,k2⟩:=Wl i (by simpa using hs)
          rw [List.getElem?_eq_getElem hi,he] at k1
          cases k1
          exact k2
         unfold XQ at hD1
         have hex:(execOp a.eval q.a2).run P w= .ok (.value (.tuple #[.bool false])) w:=by
          have hv:a.eval (.tmp q.d2)= .pointer (some ⟨ib,0,none⟩):=Cw
          simp [execOp,m5,hv,hnx,Result.andThen]
         refine zT l2 g3 (fin (s:= .dr [.sc (.p (.b false))]) hex (j2.Wi XU) (.refl _ _ _) ⟨?_,trivial⟩ hD1) ?_
         ·simp only [ae]
          exact ⟨_,rfl,.bool false,_,rfl,uV _,rfl,rfl⟩
         ·rintro a5 w5 ⟨e5,Zg,h5,t5,Un⟩
          try dsimp only at Un
          refine HY hG (Ef l2) h5 Un t5 ?_
          rintro a6 w6 ⟨e6,V4,h6,t6,LM⟩
          try dsimp only at LM
          obtain ⟨hcx,_⟩:=h6.eval q.cx
          split at LM
          ·rename_i hb
           rw [hb] at hcx
           obtain ⟨vs,hT,gu⟩:=ma LM
           simp only [Option.some.injEq] at gu
           rw [hhn] at hT
           refine wp_seq (wp_cond_false (vC hcx) (wp_exit ?_))
           exact leave (q.kx+2) e6 V4 a6 w6 w vs j1 t0 XU h6 t6 hT gu
          ·cases LM
        ·obtain ⟨hxa,hxs⟩:=mem_left hxm
         obtain ⟨i,hi,he⟩:=List.mem_iff_getElem.1 hxa
         have Gr:arr[i]? =some x:=by rw [←Array.getElem?_toList,List.getElem?_eq_getElem hi,he]
         obtain ⟨zA,m,Oz,agf⟩:=NF i x Gr
         obtain ⟨_,ks,v,rfl,K0,Zh,Y4,WR⟩:=agf
         have VK:=Ih Oz
         obtain ⟨res,uY,Ds⟩: ∃res,U2 c q JD (.dr [.agg ks,v])=some res∧(res= .inl ()∨res= .inr (n,ms)):=by
          rcases oR _ VK with h|h
          ·exact ⟨_,h,.inl rfl⟩
          ·exact ⟨_,h,.inr rfl⟩
         obtain ⟨L6,rfl⟩: ∃L6,ks=[.s L6]:=by
          rw [c2] at K0
          match ks,K0 with
          |[.s l],_=>exact ⟨l,rfl⟩
         obtain ⟨n0,rfl⟩: ∃n0,v= .i .i64 n0:=by
          rw [c3] at Y4
          match v,Y4 with
          | .i .i64 n0,_=>exact ⟨n0,rfl⟩
         have Zh:x.key= .string ⟨L6.toArray⟩:=by rw [Zh,c1];rfl
         have WR:x.val= .int .i64 n0:=by rw [WR,c3];rfl
         have abA:=uY
         unfold U2 at uY
         simp only [L3,gT,gC,gA,gN,gS,gI,decide_true,cond_true] at uY
         have hzi:(Zi.wd ib).In ib:= .inr rfl
         have BR:Trans (Zi.wd ib).In φ w φ (ChangeMaps.setBlock XV ib (.mapIter (some bm) clock (seen.push x.born) clock)):=
          L5 hzi hw1 U3 (fun _ _ _ h=>by cases h) (fun _ _ _ h=>by cases h)
         have hh1:XV.heap=w.heap:=by rcases hw1 with rfl|rfl<;>rfl
         have U4:(ChangeMaps.setBlock XV ib (.mapIter (some bm) clock (seen.push x.born) clock)).heap[ib]? =some (.mapIter (some bm) clock (seen.push x.born) clock):=by
          simp [ChangeMaps.setBlock,hh1,XU]
         have mD:zC φ (ChangeMaps.setBlock XV ib (.mapIter (some bm) clock (seen.push x.born) clock)):=by
          intro b o u hu
          have h0:=j2.rD.nE b o u hu
          have agi:b≠ib:=by
           intro Lx
           subst Lx
           have:w.cell? ⟨b,o,none⟩=none:=by simp [World.cell?,U3]
           rw [this] at h0;cases h0
          have uI:(ChangeMaps.setBlock XV ib (.mapIter (some bm) clock (seen.push x.born) clock)).heap[b]? =w.heap[b]? :=by
           simp only [ChangeMaps.setBlock,hh1]
           rw [Array.getElem?_setIfInBounds_ne (Ne.symm agi)]
          rw [World.cell?_of_block uI];exact h0
         have R4:(ChangeMaps.setBlock XV ib (.mapIter (some bm) clock (seen.push x.born) clock)).heap[bm]? =some (.map arr clock):=by
          simp only [ChangeMaps.setBlock,hh1]
          rw [Array.getElem?_setIfInBounds_ne (Ne.symm hbi)];exact Wj
         generalize ChangeMaps.setBlock XV ib (.mapIter (some bm) clock (seen.push x.born) clock)=w' at hnx BR U4 mD R4
         have J1:=j1.later BR mD j1.rD.defers.1 j1.rD.size j1.T
         have J2:=j2.later BR mD j2.rD.defers.1 j2.rD.size j2.T
         have T0:=t0.trans (BR.sup j1.sub)
         have NG:=bo U4
         have S:=J2.Wi NG
         have hex:(execOp a.eval q.a2).run P w= .ok (.value (.tuple #[.bool true,x.key,x.val])) w':=by
          have hv:a.eval (.tmp q.d2)= .pointer (some ⟨ib,0,none⟩):=Cw
          simp [execOp,m5,hv,hnx,Result.andThen]
         have kS: ∀ee:Env,ae ee x.key (.sc (.p (.s L6))):=fun ee=>by
          have:=Qx (e:=ee) ⟨L6.toArray⟩
          rw [Zh];simpa using this
         have vS: ∀ee:Env,ae ee x.val (.sc (.p (.i .i64 n0))):=fun ee=>by rw [WR];exact pN _ _
         obtain ⟨e5,Zg,h5,Un,hφ5⟩:=cU (v:= .tuple #[.bool true,x.key,x.val]) (s:= .dr [.sc (.p (.b true)),.sc (.p (.s L6)),.sc (.p (.i .i64 n0))]) S ⟨by
          simp only [ae]
          exact ⟨_,rfl,.bool true,_,rfl,uV _,rfl,x.key,_,rfl,kS _,rfl,x.val,[],rfl,vS _,rfl,rfl⟩,trivial⟩ uY
         refine zT l2 g3 (nx:=fun a5 w5=>a5=a.put q.a2.dst (.tuple #[.bool true,x.key,x.val])∧w5=w') ?_ ?_
         ·unfold Oper.wp
          rw [hex,Oper.upon_value]
          exact ⟨rfl,rfl⟩
         ·rintro a5 w5 ⟨rfl,rfl⟩
          refine HY hG (Ef l2) h5 Un (φ0:=φ) (w0:=w5) (by rw [hφ5];exact .refl _ _ _) ?_
          rintro a6 w6 ⟨e6,V4,h6,t6,LM⟩
          try dsimp only at LM
          obtain ⟨hcx,_⟩:=h6.eval q.cx
          split at LM
          ·rename_i hb
           rw [hb] at hcx
           refine wp_seq (wp_cond_true (vC hcx) (wp_skip ?_))
           refine wp_block (wp_seq ?_)
           have abB: ¬((Zi.wd ib).cv ib).In ib:=fun hz=>hz.2 rfl
           have abC: ¬((Zi.wd ib).cv ib).In bm:=fun hz=>hz.1.elim hnz hbi
           have agj:w6.heap[ib]? =some (.mapIter (some bm) clock (seen.push x.born) clock):=by rw [t6.heap ib abB NG];exact U4
           have agk:w6.heap[bm]? =some (.map arr clock):=by rw [t6.heap bm abC (bo R4)];exact R4
           have abD:=run_entry_at (P:=P) w6 ib bm clock seen arr clock x agj agk hxa VL
           have abE:a6.eval (.tmp q.d2)= .pointer (some ⟨ib,0,none⟩):=by
            have:=h6.defers.2.2.2 q.d2 hd2
            show a6.tmps.getD q.d2 undef=_
            rw [this];exact hTd
           have agl:(execOp a6.eval q.a3).run P w6= .ok (.value (.tuple #[x.key,x.val])) w6:=by
            simp [execOp,m6,abE,abD,Result.andThen]
           refine zT l3 g4 (fin (s:= .dr [.sc (.p (.s L6)),.sc (.p (.i .i64 n0))]) agl h6 (.refl _ _ _) ⟨?_,trivial⟩ LM) ?_
           ·simp only [ae]
            exact ⟨_,rfl,x.key,_,rfl,kS _,rfl,x.val,[],rfl,vS _,rfl,rfl⟩
           ·rintro a7 w7 ⟨e7,st7,h7,t7,hK7⟩
            try dsimp only at hK7
            refine HY hG (Ef l3) h7 hK7 (t6.trans t7) ?_
            rintro a8 w8 ⟨e8,st8,h8,t8,hK8⟩
            try dsimp only at hK8
            refine rI hG hD q.rest h8 hK8 ?_
            intro n' e9 st9 a9 w9 h9 t9 XW
            try dsimp only at XW
            have t89:=t8.trans t9
            cases UK:Nat.beq n' 0||Nat.beq n' (q.k5+2) with
            |true=>
             rw [UK] at XW
             simp only [cond_true,Option.some.injEq] at XW
             have Cx:Code.rounds P q.body (Exit.inBlock q.k Q) k a9 w9:=by
              have tW:Trans (Zi.wd ib).In φ w5 e9.φ w9:=t89.sup fun b hb=>hb.1
              refine ih e9.φ a9 w9 (seen.push x.born) (J1.later tW h9.nE h9.defers.1 h9.size h9.defers.2.2.2) (J2.later tW h9.nE h9.defers.1 h9.size h9.defers.2.2.2) (T0.trans (tW.sup j1.sub)) ?_ ?_ ?_ ?_
              ·rw [t89.heap ib abB NG];exact U4
              ·rw [t89.heap bm abC (bo R4)];exact R4
              ·intro b U5
               simp only [Array.toList_push,List.mem_append,List.mem_singleton] at U5
               rcases U5 with U5|rfl
               ·exact Wl b U5
               ·rw [zA];exact ⟨_,Oz,by rw [abA,←XW]⟩
              ·have:=left_shrinks arr seen x hxm
               omega
             refine yF (Q:=Exit.then (Code.rounds P q.body (Exit.inBlock q.k Q) k) (Exit.inBlock q.k Q)) ?_
             have:(bif Nat.beq n' (q.k5+2) then 0 else n')=0:=by
              rcases Bool.or_eq_true_iff.1 UK with h|h
              ·have:=Nat.eq_of_beq_eq_true h;subst this;cases Nat.beq 0 (q.k5+2)<;>rfl
              ·rw [h];rfl
             rw [this]
             exact Cx
            |false=>
             rw [UK] at XW
             simp only [cond_false] at XW
             obtain ⟨vs,hT,gu⟩:=ma XW
             simp only [Option.some.injEq] at gu
             rw [hhn] at hT
             simp only [Bool.or_eq_false_iff] at UK
             have Tt:n'≠0:=by intro he;rw [he] at UK;simp [dD] at UK
             have agm:(n',vs)=(n,ms):=by
              rcases Ds with h|h
              ·rw [h] at gu;cases gu
              ·rw [h] at gu;cases gu;rfl
             have:=leave n' e9 st9 a9 w9 w5 vs J1 T0 NG h9 t89 hT agm
             refine yF (Q:=Exit.then (Code.rounds P q.body (Exit.inBlock q.k Q) k) (Exit.inBlock q.k Q)) ?_
             rw [UK.2]
             simp only [cond_false]
             rw [sV Tt]
             exact this
          ·cases LM
      have hφ4:{e4 with φ:=e4.φ}=e4:=by cases e4;rfl
      refine key (arr.size+1) e4.φ a2 w2 #[] (by rw [hφ4];exact j1.wide agb U3) (by rw [hφ4];exact j2.abx U3) (by rw [hφ];exact t3) U3 Wj (by simp) ?_
      have:(leftOf arr #[]).size≤arr.size:=by unfold leftOf;exact Array.size_filter_le
      omega
    ·cases Jr
  ·cases lI
 ·cases lI
end
end Dn
/-
  Functions of the library as table entries. Conditions: none.
-/
set_option linter.unusedVariables false
namespace Dn
open Go
def gZ (size bytes:Nat):List MV→Option MV
 |[.list xs]=>bif mF size xs&&Nat.ble (xs.length *bytes) (2^46) then some (.fresh xs) else none
 |_=>none
def mP (bytes:Nat):List MV→Option MV
 |[.fresh xs,.i .i64 i,.fresh ys]=>bif decide (0≤i)&&(Nat.ble i.toNat xs.length&&(!ys.isEmpty&&Nat.ble ((xs.length+ys.length) *bytes) (2^46))) then some (.fresh (xs.take i.toNat++ys++xs.drop i.toNat)) else none
 |_=>none
theorem oU {size bytes:Nat} {ms:List MV} {r:MV} (h:gZ size bytes ms=some r): ∃xs,ms=[.list xs]∧r= .fresh xs∧mF size xs=true∧xs.length *bytes≤2^46:=by
 unfold gZ at h
 split at h
 ·rename_i xs
  cases hb:mF size xs&&Nat.ble (xs.length *bytes) (2^46) with
  |false=>simp [hb] at h
  |true=>
   simp only [hb,cond_true,Option.some.injEq] at h
   simp only [Bool.and_eq_true] at hb
   exact ⟨xs,rfl,h.symm,hb.1,Nat.le_of_ble_eq_true hb.2⟩
 ·cases h
theorem zU {bytes:Nat} {ms:List MV} {r:MV} (h:mP bytes ms=some r): ∃xs ys i,ms=[.fresh xs,.i .i64 ((i:Nat):Int),.fresh ys]∧r= .fresh (xs.take i++ys++xs.drop i)∧i≤xs.length∧ys≠[]∧(xs.length+ys.length) *bytes≤2^46:=by
 unfold mP at h
 split at h
 ·rename_i xs i ys
  cases hb:decide (0≤i)&&(Nat.ble i.toNat xs.length&&(!ys.isEmpty&&Nat.ble ((xs.length+ys.length) *bytes) (2^46))) with
  |false=>rw [hb] at h;cases h
  |true=>
   simp only [hb,cond_true,Option.some.injEq] at h
   simp only [Bool.and_eq_true,decide_eq_true_eq,Bool.not_eq_true'] at hb
   obtain ⟨h1,h2,h3,h4⟩:=hb
   refine ⟨xs,ys,i.toNat,?_,h.symm,Nat.le_of_ble_eq_true h2,?_,Nat.le_of_ble_eq_true h4⟩
   ·rw [Int.toNat_of_nonneg h1]
   ·intro hy;subst hy;simp at h3
 ·cases h
theorem cR.none (P:Program) (c:Ctx):cR P c (fun _ _=>Option.none):=⟨fun f ms r h=>by cases h⟩
theorem cR.L7 {P:Program} {c:Ctx} {g:Nat→List MV→Option MV} {n:Nat} {F:List MV→Option MV} (h:cR P c g) (r8: ∀f,c.key f=f) (hF: ∀ms r,F ms=some r→kn P c n ms r):cR P c (bD n F g):=
 h.add (fun f ms r hk hr=>by
  rw [r8] at hk
  rw [hk]
  exact hF ms r hr)
def tT:Code→List Oper
 | .region _ ops _=>ops.toList
 | .seq x y=>tT x++tT y
 | .cond _ x y=>tT x++tT y
 | .block _ x=>tT x
 | .loop x=>tT x
 |_=>[]
def gx (fn:Func) (d:Oper) (k:Nat):Oper:=match fn.body with|some c=>(tT c).getD k d|none=>d
def NH (o:Nat→Oper):Code:= .seq (.region 18 #[o 83,o 84,o 85,o 86,o 87] false) (.seq (.region 19 #[o 88,o 89,o 90,o 91,o 92] false) (.seq (.region 20 #[o 93,o 94] false) .ret))
def gy:Oper:={dst:=none,op:= .move (.tmp 0),type:=0,pos:= "",after:= #[],guard:=none}
end Dn
/-
  Reasoning about functions on values. Conditions: none.
-/
set_option linter.unusedVariables false
namespace Dn
open Go
section
variable {R:Type}
@[simp] theorem aln (x : Bool) (K : Bool → Option R) : gB (.b x) K = K x := (rfl)
@[simp] theorem alo (k : IntKind) (x : Int) (K : Int → Option R) : gI k (.i k x) K = K x := by simp [gI]
@[simp] theorem alp (x : List UInt8) (K : List UInt8 → Option R) : gS (.s x) K = K x := (rfl)
@[simp] theorem alq (x : List MV) (K : List MV → Option R) : gL (.list x) K = K x := (rfl)
@[simp] theorem alr (x : jq) (K : jq → Option R) : gH (.h x) K = K x := (rfl)
@[simp] theorem als (x : List MV) (K : List MV → Option R) : gA (.agg x) K = K x := (rfl)
@[simp] theorem alu (x : List MV) (K : List MV → Option R) : gT (.dr x) K = K x := (rfl)
@[simp] theorem alv (x : List MV) (K : List MV → Option R) : gF (.fresh x) K = K x := (rfl)
@[simp] theorem aje (f : Nat) (x : List MV) (K : Nat → List MV → Option R) : MQ (.func f x) K = K f x := (rfl)
@[simp] theorem alw (f : Nat) (x : List MV) (K : MV → Option R) : gR (.func f x) K = K (.func f x) := (rfl)
@[simp] theorem alx (m : MV) (r : List MV) (K : MV → List MV → Option R) : gC (m :: r) K = K m r := (rfl)
@[simp] theorem aly (K : Option R) : gN [] K = K := (rfl)
@[simp] theorem bl {α : Type} (a : α) (K : α → Option R) : bd (some a) K = K a := (rfl)
@[simp] theorem ajf (a b : Nat) : Nat.beq a b = decide (a = b) := dD a b
@[simp] theorem abF (K : Option R) : cb true K = K := (rfl)
@[simp] theorem abG (x y : Option R) : bk true x y = x := (rfl)
@[simp] theorem Zt (x y : Option R) : bk false x y = y := (rfl)
end
theorem U6 {x:Int} (h1: -9223372036854775808≤x) (h2:x≤9223372036854775807):IntKind.wrap .i64 x=x:=by rw [IntKind.wrap_i64];omega
theorem XX {i j:Nat} (h:i+j<2^62):IntKind.wrap .i64 (Int.fdiv (IntKind.wrap .u64 (IntKind.wrap .i64 ((i:Int)+(j:Int)))) (2^min (Int.toNat 1) (IntKind.bits .u64)))=(((i+j)/2:Nat):Int):=by
 have h1:IntKind.wrap .i64 ((i:Int)+(j:Int))=((i+j:Nat):Int):=by rw [IntKind.wrap_i64];omega
 have h2:IntKind.wrap .u64 ((i+j:Nat):Int)=((i+j:Nat):Int):=by
  have:IntKind.wrap .u64 ((i+j:Nat):Int)=((i+j:Nat):Int)%18446744073709551616:=by simp [IntKind.wrap,IntKind.signed,IntKind.bits]
  rw [this];omega
 have h3:(2:Int)^min (Int.toNat 1) (IntKind.bits .u64)=2:=by decide
 rw [h1,h2,h3,Int.fdiv_eq_ediv_of_nonneg _ (by omega)]
 rw [IntKind.wrap_i64];omega
section
variable {σ R:Type} {body:σ→Option (Sum σ R)}
theorem GW {n:Nat} {s:σ} {r:R} (h:iter body n s=some r): ∀{m:Nat},n≤m→iter body m s=some r:=by
 induction n generalizing s with
 |zero=>cases h
 |succ n ih=>
  intro m hm
  obtain ⟨m,rfl⟩: ∃k,m=k+1:=⟨m-1,by omega⟩
  simp only [iter] at h⊢
  cases hb:body s with
  |none=>rw [hb] at h;cases h
  |some x=>
   rw [hb] at h
   cases x with
   |inl s'=>exact ih h (by omega)
   |inr r'=>exact h
theorem mQ {n:Nat} {s:σ} {r:R} (h:iter body n s=some r):Loop body s=some r:=by
 have he: ∃r n,iter body n s=some r:=⟨r,n,h⟩
 unfold Loop
 rw [dif_pos he]
 obtain ⟨m,hm⟩:=Classical.choose_spec he
 have h1:=GW h (Nat.le_max_left n m)
 have h2:=GW hm (Nat.le_max_right n m)
 rw [h1] at h2
 exact h2.symm
theorem R5 (I:σ→Prop) (μ:σ→Nat) (Q:R→Prop) (h: ∀s,I s→(∃s',body s=some (.inl s')∧I s'∧μ s'<μ s)∨(∃r,body s=some (.inr r)∧Q r)) {s:σ} (hs:I s): ∃r,Loop body s=some r∧Q r:=by
 have key: ∀k s,I s→μ s<k→ ∃r,iter body k s=some r∧Q r:=by
  intro k
  induction k with
  |zero=>intro s _ h;omega
  |succ k ih=>
   intro s hs hk
   rcases h s hs with ⟨s',e,hi,hm⟩|⟨r,e,hq⟩
   ·obtain ⟨r,e2,hq⟩:=ih s' hi (by omega)
    exact ⟨r,by simp only [iter,e];exact e2,hq⟩
   ·exact ⟨r,by simp only [iter,e],hq⟩
 obtain ⟨r,e,hq⟩:=key (μ s+1) s hs (by omega)
 exact ⟨r,mQ e,hq⟩
theorem J4 (S:Nat→σ) (N:Nat) (Q:R→Prop) (P:Nat→Prop) (h0:P 0) (h: ∀k,k<N→P k→(body (S k)=some (.inl (S (k+1)))∧P (k+1))∨(∃r,body (S k)=some (.inr r)∧Q r)) (he:P N→ ∃r,body (S N)=some (.inr r)∧Q r): ∃r,Loop body (S 0)=some r∧Q r:=by
 have key: ∀d k,k+d=N→P k→ ∃r,iter body (d+1) (S k)=some r∧Q r:=by
  intro d
  induction d with
  |zero=>
   intro k hk hp
   have:k=N:=by omega
   subst this
   obtain ⟨r,e,hq⟩:=he hp
   exact ⟨r,by simp only [iter,e],hq⟩
  |succ d ih=>
   intro k hk hp
   rcases h k (by omega) hp with ⟨e,FF⟩|⟨r,e,hq⟩
   ·obtain ⟨r,e2,hq⟩:=ih (k+1) (by omega) FF
    exact ⟨r,by rw [iter,e];exact e2,hq⟩
   ·exact ⟨r,by rw [iter,e],hq⟩
 obtain ⟨r,e,hq⟩:=key N 0 (by omega) h0
 exact ⟨r,mQ e,hq⟩
theorem R6 (S:Nat→σ) (N:Nat) (r:R) (h: ∀k,k<N→body (S k)=some (.inl (S (k+1)))) (he:body (S N)=some (.inr r)):Loop body (S 0)=some r:=by
 obtain ⟨r',e,rfl⟩:=J4 (body:=body) S N (· =r) (fun _=>True) trivial (fun k hk _=> .inl ⟨h k hk,trivial⟩) (fun _=>⟨r,he,rfl⟩)
 exact e
end
end Dn
/-
  From functions on plain values to functions on typed values. Conditions: none.
-/
set_option linter.unusedVariables false
namespace Dn
open Go
def bQ {R:Type} (l:List MV) (K:Nat→Option R):Option R:=K l.length
def ix {α R:Type} (l:List α) (i:Int) (K:α→Option R):Option R:=
 match (if 0≤i then l[i.toNat]? else none) with|some x=>K x|none=>none
def R7 (l:List UInt8):List Int:=l.map fun b=>(b.toNat:Int)
@[simp] theorem oh (l : List UInt8) : I6 l = (R7 l).map (MV.i .u8) := by unfold I6 R7; rw [List.map_map]; rfl
def tU {α:Type} (bytes:Nat) (l:List α):Option (List α):=if l.length *bytes≤2^46 then some l else none
def xg {α:Type} (bytes:Nat) (xs:List α) (i:Int) (ys:List α):Option (List α):=
 if 0≤i∧i.toNat≤xs.length∧ys≠[]∧(xs.length+ys.length) *bytes≤2^46 then some (xs.take i.toNat++ys++xs.drop i.toNat) else none
@[reducible] def R8 {α : Type} (f : α → MV) (l : List α) : MV := .list (l.map f)
@[reducible] def O5 {α : Type} (f : α → MV) (l : List α) : MV := .fresh (l.map f)
def Sm {A B:Type} (g:B→A) (x:Option A) (y:Option B):Prop:=x=y.map g
section
variable {A B A' B' α:Type} {g:B→A} {T:Option B}
theorem Sm.at {x x':Option A} (e:x=x') (h:Sm g x' T):Sm g x T:=e▸h
theorem aF {l:List MV} {K:List MV→Option A} (h:Sm g (K l) T):Sm g (gA (.agg l) K) T:=h
theorem aD {x:Bool} {K:Bool→Option A} (h:Sm g (K x) T):Sm g (gB (.b x) K) T:=h
theorem dL {x:List UInt8} {K:List UInt8→Option A} (h:Sm g (K x) T):Sm g (gS (.s x) K) T:=h
theorem aU {x:List MV} {K:List MV→Option A} (h:Sm g (K x) T):Sm g (gL (.list x) K) T:=h
theorem lJ {x:MV} {outs:List MV} {K:MV→List MV→Option A} (h:Sm g (K x outs) T):Sm g (gW (.eF x outs) K) T:=h
theorem dU {x:List MV} {K:List MV→Option A} (h:Sm g (K x) T):Sm g (gT (.dr x) K) T:=h
theorem nJ {x:List MV} {K:List MV→Option A} (h:Sm g (K x) T):Sm g (gF (.fresh x) K) T:=h
theorem NI {x:List MV} {K:List MV→Option A} (h:Sm g (K x) T):Sm g (gP (.rp x) K) T:=h
theorem vM {f:Nat} {x:List MV} {K:Nat→List MV→Option A} (h:Sm g (K f x) T):Sm g (MQ (.func f x) K) T:=h
theorem tV {f:Nat} {x:List MV} {K:MV→Option A} (h:Sm g (K (.func f x)) T):Sm g (gR (.func f x) K) T:=h
theorem R9 {v:Value} {K:MV→Option A} (h:Sm g (K (.raw v)) T):Sm g (gR (.raw v) K) T:=h
theorem av {k:IntKind} {n:Int} {K:Int→Option A} (h:Sm g (K n) T):Sm g (gI k (.i k n) K) T:=by simpa using h
theorem ah {m:MV} {r:List MV} {K:MV→List MV→Option A} (h:Sm g (K m r) T):Sm g (gC (m::r) K) T:=h
theorem az {K:Option A} (h:Sm g K T):Sm g (gN [] K) T:=h
theorem aj {x:Option A'} {y:Option B'} {f:B'→A'} {K:A'→Option A} {K':B'→Option B} (h:Sm f x y) (hk: ∀b,Sm g (K (f b)) (K' b)):Sm g (bd x K) (bd y K'):=by
 unfold Sm at h;subst h
 cases y with
 |none=>rfl
 |some b=>exact hk b
theorem aN {p:Prop} [Decidable p] {X Y:Option A} {X' Y':Option B} (h1:Sm g X X') (h2:Sm g Y Y'):Sm g (bk (decide p) X Y) (if p then X' else Y'):=by
 by_cases h:p<;>simpa [h] using (by assumption)
theorem aA {c:Bool} {X Y:Option A} {X' Y':Option B} (h1:Sm g X X') (h2:Sm g Y Y'):Sm g (bk c X Y) (if c then X' else Y'):=by
 cases c<;>simpa using (by assumption)
theorem df {p:Prop} [Decidable p] {X:Option A} {X':Option B} (h1:Sm g X X'):Sm g (cb (decide p) X) (if p then X' else none):=by
 by_cases h:p
 ·simpa [h] using h1
 ·simp [h,cb,Sm]
theorem Ii {c:Bool} {X:Option A} {X':Option B} (h1:Sm g X X'):Sm g (cb c X) (if c then X' else none):=by
 cases c
 ·simp [cb,Sm]
 ·simpa using h1
theorem br {c:Bool} {X:Option A} (hc:c=true) (h:Sm g X T):Sm g (cb c X) T:=by subst hc;exact h
theorem ku {c:Bool} {X Y:Option A} (hc:c=true) (h:Sm g X T):Sm g (bk c X Y) T:=by subst hc;exact h
theorem kv {c:Bool} {X Y:Option A} (hc:c=false) (h:Sm g Y T):Sm g (bk c X Y) T:=by subst hc;exact h
theorem mb {l:List MV} {n:Nat} {K:Nat→Option A} (e:l.length=n) (h:Sm g (K n) T):Sm g (bQ l K) T:=by subst e;exact h
theorem bx {l:List MV} {M:List α} {f:α→MV} {i:Int} {K:MV→Option A} {K':α→Option B} (e:l=M.map f) (h: ∀y,Sm g (K (f y)) (K' y)):Sm g (idx l i K) (ix M i K'):=by
 subst e
 unfold idx WD ix
 by_cases hi:0≤i
 ·simp only [hi,if_true,List.getElem?_map]
  cases M[i.toNat]? with
  |none=>rfl
  |some y=>exact h y
 ·simp only [hi,if_false];rfl
theorem zW {X:Option A} {T:Option B} (h:Sm g X T):Sm g (both X X) T:=by
 have e:both X X=X:=by unfold both;rw [if_pos rfl]
 rw [e];exact h
theorem CW {C:Type} {x:Option C} {K:C→Option A} {K':C→Option B} (h: ∀b,Sm g (K b) (K' b)):Sm g (bd x K) (bd x K'):=by
 cases x with
 |none=>rfl
 |some b=>exact h b
theorem Ij {a b:Nat} {K:Nat→Nat→Option A} (h:Sm g (K a b) T):Sm g (TH (.raw (.complex .f64 a b)) K) T:=h
def Sa {R:Type} (l:List Int) (K:List UInt8→Option R):Option R:=if l.all isByte then K (l.map fun n=>UInt8.ofNat n.toNat) else none
theorem Sb {R:Type} {M:List Int}: ∀{K:List UInt8→Option R},Hw (M.map (MV.i .u8)) K=Sa M K:=by
 induction M with
 |nil=>intro K;rfl
 |cons n M ih=>
  intro K
  simp only [List.map_cons,Hw,byK,gI,decide_true,cond_true,ih]
  cases h:isByte n<;>simp [cb,Sa,h]
theorem XY {l:List MV} {M:List Int} {K:List UInt8→Option A} {K':List UInt8→Option B} (e:l=M.map (MV.i .u8)) (h: ∀b,Sm g (K b) (K' b)):Sm g (Hw l K) (Sa M K'):=by
 subst e
 rw [Sb]
 unfold Sa
 split
 ·exact h _
 ·rfl
theorem fZ {d:A} {a:B} (e:d=g a):Sm g (some d) (some a):=by subst e;rfl
theorem tX {n:Nat} {l:List MV} {M:List α} {f:α→MV} (e:l=M.map f) (h: ∀x,(f x).w=n):mF n l=true:=by
 subst e
 unfold mF
 rw [List.all_map,List.all_eq_true]
 intro x _
 simp [h x]
theorem J5 {σ σ' ρ ρ':Type} {e:σ'→σ} {f:ρ'→ρ} {K:σ→Option (Sum σ ρ)} {K':σ'→Option (Sum σ' ρ')} (h: ∀s,Sm (Sum.map e f) (K (e s)) (K' s)) (n:Nat) (s:σ'):iter K n (e s)=(iter K' n s).map f:=by
 induction n generalizing s with
 |zero=>rfl
 |succ n ih=>
  have:=h s
  unfold Sm at this
  simp only [iter,this]
  cases K' s with
  |none=>rfl
  |some x=>cases x with
   |inl s'=>exact ih s'
   |inr r=>rfl
theorem GX {σ ρ:Type} {K:σ→Option (Sum σ ρ)} {s:σ} (h: ∀n,iter K n s=none):Loop K s=none:=by
 unfold Loop
 rw [dif_neg]
 rintro ⟨r,n,e⟩
 rw [h] at e;cases e
theorem cK {σ σ' ρ ρ':Type} {K:σ→Option (Sum σ ρ)} {K':σ'→Option (Sum σ' ρ')} {d0:σ} {s0:σ'} (e:σ'→σ) (f:ρ'→ρ) (e0:d0=e s0) (h: ∀s,Sm (Sum.map e f) (K (e s)) (K' s)):Sm f (Loop K d0) (Loop K' s0):=by
 subst e0
 unfold Sm
 by_cases hx: ∃r n,iter K' n s0=some r
 ·obtain ⟨r,n,hn⟩:=hx
  rw [mQ hn]
  have:iter K n (e s0)=some (f r):=by rw [J5 h,hn];rfl
  rw [mQ this];rfl
 ·have h1: ∀n,iter K' n s0=none:=fun n=>by
   cases hn:iter K' n s0 with
   |none=>rfl
   |some r=>exact absurd ⟨r,n,hn⟩ hx
  rw [GX h1,GX fun n=>by rw [J5 h,h1];rfl];rfl
theorem xh {size bytes:Nat} {f:α→MV} (hw: ∀x,(f x).w=size) (l:List α):Sm (O5 f) (gZ size bytes [.list (l.map f)]) (tU bytes l):=by
 unfold Sm gZ tU
 simp only [tX (rfl:l.map f=l.map f) hw,Bool.true_and,List.length_map]
 by_cases h:l.length *bytes≤2^46
 ·rw [show Nat.ble (l.length *bytes) (2^46)=true from Nat.ble_eq_true_of_le h,if_pos h];rfl
 ·rw [show Nat.ble (l.length *bytes) (2^46)=false from by rw [Bool.eq_false_iff];intro hb;exact h (Nat.le_of_ble_eq_true hb),if_neg h];rfl
theorem J6 {bytes:Nat} {f:α→MV} (xs:List α) (i:Int) (ys:List α):Sm (O5 f) (mP bytes [.fresh (xs.map f),.i .i64 i,.fresh (ys.map f)]) (xg bytes xs i ys):=by
 unfold Sm mP xg
 simp only [List.length_map]
 have hb: ∀a b:Nat,Nat.ble a b=decide (a≤b):=fun a b=>by
  by_cases h:a≤b
  ·rw [Nat.ble_eq_true_of_le h,decide_eq_true h]
  ·rw [decide_eq_false h,Bool.eq_false_iff];intro hh;exact h (Nat.le_of_ble_eq_true hh)
 rw [hb,hb]
 have he:(ys.map f).isEmpty=decide (ys=[]):=by cases ys<;>simp
 rw [he]
 by_cases h1:0≤i<;>by_cases h2:i.toNat≤xs.length<;>by_cases h3:ys=[]<;>by_cases h4:(xs.length+ys.length) *bytes≤2^46<;>simp [h1,h2,h3,h4,O5]
end
abbrev XZ (f:Option MV):List MV→Option MV|[]=>f|_=>none
abbrev oV (f:MV→Option MV):List MV→Option MV|[a]=>f a|_=>none
abbrev hM (f:MV→MV→Option MV):List MV→Option MV|[a,b]=>f a b|_=>none
abbrev yG (f:MV→MV→MV→Option MV):List MV→Option MV|[a,b,c]=>f a b c|_=>none
abbrev L8 (f:MV→MV→MV→MV→Option MV):List MV→Option MV|[a,b,c,d]=>f a b c d|_=>none
theorem U7 {f:Option MV} {B:List MV→Option MV} (h:B []=f) {ms:List MV} {r:MV} (e:XZ f ms=some r):B ms=some r:=by
 unfold XZ at e;split at e
 ·rw [h];exact e
 ·cases e
theorem dY {f:MV→Option MV} {B:List MV→Option MV} (h: ∀a,B [a]=f a) {ms:List MV} {r:MV} (e:oV f ms=some r):B ms=some r:=by
 unfold oV at e;split at e
 ·rw [h];exact e
 ·cases e
theorem bU {f:MV→MV→Option MV} {B:List MV→Option MV} (h: ∀a b,B [a,b]=f a b) {ms:List MV} {r:MV} (e:hM f ms=some r):B ms=some r:=by
 unfold hM at e;split at e
 ·rw [h];exact e
 ·cases e
theorem kU {f:MV→MV→MV→Option MV} {B:List MV→Option MV} (h: ∀a b c,B [a,b,c]=f a b c) {ms:List MV} {r:MV} (e:yG f ms=some r):B ms=some r:=by
 unfold yG at e;split at e
 ·rw [h];exact e
 ·cases e
theorem zX {f:MV→MV→MV→MV→Option MV} {B:List MV→Option MV} (h: ∀a b c d,B [a,b,c,d]=f a b c d) {ms:List MV} {r:MV} (e:L8 f ms=some r):B ms=some r:=by
 unfold L8 at e;split at e
 ·rw [h];exact e
 ·cases e
theorem cR.fn {P:Program} {c c':Ctx} {g:Nat→List MV→Option MV} {n:Nat} {fn:Func} {cG:List (List Kd)} {F:List MV→Option MV} (h:cR P c g) (hl:xy c c') (PU:c'.g=g) (oQ:jI P c.ti) (gu:HE P c.ti) (Dh: ∀t k,c.fk t=some k→P.underlying t=some (.float k)) (IW:tL P c) (Cz:P.follows .mixedOrders=true) (Cy:pk P c)
 (hf:P.funcs[n]? =some fn) (hh:xV c' n fn cG=true) (r8: ∀f,c.key f=f) {fresh:Option Nat} (Cu:yE c' n fn fresh=true) (hF: ∀{ms r},F ms=some r→Gk c' cG fresh fn ms=some r):cR P c (bD n F g):=by
 have hb:=cR.body h hl PU oQ gu Dh IW Cz Cy hf hh r8 Cu
 refine h.add (fun f ms r hk hr=> ?_)
 refine hb.all f ms r ?_
 unfold bD
 rw [hk]
 simp [hF hr]
end Dn
