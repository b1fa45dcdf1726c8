import Derived.Test.YtbkodohojpchjaaGreatDoorDnC
import Derived.Test.YtbkodohojpchjaaGreatDoorDnB
import Derived.LaidLaws
import Derived.Deep.DeepLaidRun
import Derived.Handed
import Derived.JoinedOf
import Derived.KernelRfl
/-
  Functions of the library, on typed values. Conditions: none.
-/
set_option linter.unusedVariables false
set_option linter.unusedSimpArgs false
open Go.IntKind renaming wrap→c8,bits→BY
open List renaming mem_iff_getElem→sh,getElem?_eq_getElem→AI,getElem?_eq_none→AS,length_take→IS,getElem_mem→IT
open Nat renaming le_refl→AT,zero_le→aaf
open Bool renaming false_eq_true→By,eq_false_iff→IN,false_or→OF
open Char renaming ofNat→No
open Int renaming toNat→aaa,fdiv→aai
namespace Dn
open Go
def OC (x y:Int):Int:=if x<y then-1 else if y<x then 1 else 0
def nq {α:Type}(key:α->Int)(L:List α)(s:Int):Nat:=L.countP (λe=>decide (key e<s))
def fR {α:Type}(key:α->Int)(L:List α)(s:Int):Bool:=L.any λe=>decide (key e=s)
def pQ {α:Type}(key:α->Int)(L:List α):Prop:=L.Pairwise λa b=>key a<key b
section
variable {α τ:Type}{key:α->Int}
theorem aiY {L:List α}{s:Int}{p:Nat}(hp:p<=L.length)(h1: ∀k (hk:k<L.length),k<p->key L[k]<s)(h2: ∀k (hk:k<L.length),p<=k->s<=key L[k]):nq key L s=p:=by
 have h3:(L.take p).countP (λe=>decide (key e<s))=(L.take p).length:=by
  rw [List.countP_eq_length];intro a ha;obtain ⟨k,hk,rfl⟩:=sh.1 ha;have CM:k<p:=by rw [IS] at hk;omega
  rw [List.getElem_take];exact decide_eq_true (h1 k (by omega) CM)
 have h4:(L.drop p).countP (λe=>decide (key e<s))=0:=by rw [List.countP_eq_zero];intro a ha;obtain ⟨k,hk,rfl⟩:=sh.1 ha;rw [List.length_drop] at hk;rw [List.getElem_drop];have:=h2 (p+k) (by omega) (by omega);simp;omega
 have h5:nq key L s=(L.take p++L.drop p).countP (λe=>decide (key e<s)):=by rw [List.take_append_drop];rfl
 rw [h5,List.countP_append,h3,h4,IS];omega
theorem pQ.lt {L:List α}(hs:pQ key L){i j:Nat}(hj:j<L.length)(h:i<j):key (L[i]'(by omega))<key L[j]:=List.pairwise_iff_getElem.1 hs i j (by omega) hj h
theorem pQ.le {L:List α}(hs:pQ key L){i j:Nat}(hj:j<L.length)(h:i<=j):key (L[i]'(by omega))<=key L[j]:=by
 rcases Nat.lt_or_eq_of_le h with h|h
 ·exact Int.le_of_lt (hs.lt hj h)
 ·subst h;exact Int.le_refl _
theorem J7 (L:List α)(s:Int):nq key L s<=L.length:=List.countP_le_length
theorem pQ.lb {L:List α}(hs:pQ key L)(s:Int):(∀k (hk:k<L.length),k<nq key L s->key L[k]<s)/\(∀k (hk:k<L.length),nq key L s<=k->s<=key L[k]):=by
 have: ∃p,p<=L.length/\(∀k (hk:k<L.length),k<p->key L[k]<s)/\(∀k (hk:k<L.length),p<=k->s<=key L[k]):=by
  induction L with
  |nil=>exact ⟨0,AT _,λk hk=>by simp at hk,λk hk=>by simp at hk⟩
  |cons a l ih=>
   have Bi:=List.pairwise_cons.1 hs;by_cases ha:key a<s
   ·obtain ⟨p,h1,h2,h3⟩:=ih Bi.2;refine ⟨p+1,by simp;omega,λk hk KC=> ?_,λk hk KC=> ?_⟩
    ·cases k with
     |zero=>exact ha
     |succ k=>exact h2 k (by simpa using hk) (by omega)
    ·cases k with
     |zero=>omega
     |succ k=>exact h3 k (by simpa using hk) (by omega)
   ·refine ⟨0,aaf _,λk hk KC=>by omega,λk hk _=> ?_⟩;cases k with
    |zero=>simp;omega
    |succ k=>have:=Bi.1 (l[k]'(by simpa using hk)) (IT _);simp only [List.getElem_cons_succ];omega
 obtain ⟨p,h1,h2,h3⟩:=this;rw [aiY h1 h2 h3];exact ⟨h2,h3⟩
theorem pQ.has {L:List α}(hs:pQ key L)(s:Int):fR key L s=true↔ ∃h:nq key L s<L.length,key L[nq key L s]=s:=by
 obtain ⟨h1,h2⟩:=hs.lb s;unfold fR;rw [List.any_eq_true];constructor
 ·rintro ⟨x,hx,he⟩;obtain ⟨k,hk,rfl⟩:=sh.1 hx;have he:key L[k]=s:=by simpa using he
  have hge:nq key L s<=k:=by refine Nat.le_of_not_lt λdK=> ?_;have:=h1 k hk dK;omega
  have hl:nq key L s<L.length:=by omega
  refine ⟨hl,?_⟩;have:=h2 _ hl (AT _);have:=hs.le hk hge;omega
 ·rintro ⟨h,he⟩;exact ⟨_,IT h,decide_eq_true he⟩
theorem pK {L:List α}{s:Int}:fR key L s=true↔ ∃x∈L,key x=s:=by simp [fR]
noncomputable def bsL (x:List α)(target:τ)(cmp:α->τ->Option Int)(st:Int×Int):Option ((Int×Int)⊕Int):=if st.1<st.2 then
 if (0:Int)<=1 then
 ix x (c8 .i64 (aai (c8 .u64 (c8 .i64 (st.1+st.2))) (2^min (aaa 1) (BY .u64)))) λy=>
 bd (cmp y target) λrA=>
 bd (if rA<0 then
  some (c8 .i64 ((c8 .i64 (aai (c8 .u64 (c8 .i64 (st.1+st.2))) (2^min (aaa 1) (BY .u64))))+1),st.2)
  else
  some (st.1,c8 .i64 (aai (c8 .u64 (c8 .i64 (st.1+st.2))) (2^min (aaa 1) (BY .u64)))):Option (Int×Int)) λw1=>
 some (.inl (w1.1,w1.2))
 else none
 else
 some (.inr st.1)
noncomputable def bsearch (x:List α)(target:τ)(cmp:α->τ->Option Int):Option (Int×Bool):=bd (Loop (bsL x target cmp) (0,(x.length:Int))) λw=>
 bd (if w<(x.length:Int) then
  ix x w λy1=>
  bd (cmp y1 target) λaT=>
  some (w,decide (aT=0))
  else
  some (w,false):Option (Int×Bool)) λw2=>
 some (w2.1,w2.2)
theorem J8 {L:List α}{s:Int}{cmp:α->Int->Option Int}(hs:pQ key L)(hl:L.length<2^60)(hc: ∀a,cmp a s=some (OC (key a) s)):bsearch L s cmp=some ((nq key L s:Int),fR key L s):=by
 obtain ⟨wj,vH⟩:=hs.lb s;have hle:=J7 (key:=key) L s;have cV:Loop (bsL L s cmp) (0,(L.length:Int))=some (nq key L s:Int):=by
  refine aM.eq (aM.loop (λst=> ∃i j:Nat,st=((i:Int),(j:Int))/\i<=nq key L s/\nq key L s<=j/\j<=L.length) (λst=>(st.2-st.1).toNat) ⟨0,L.length,rfl,aaf _,hle,AT _⟩ ?_);rintro st ⟨i,j,rfl,hi,hj,KA⟩;unfold bsL;by_cases dK:i<j
  ·have hm:(i+j)/2<L.length:=by omega
   simp only [show ((i:Int)<(j:Int)) by omega,if_true,show ((0:Int)<=1) by decide,aas (by omega:i+j<2^62),aP hm,hc,al];by_cases hlb:(i+j)/2<nq key L s
   ·have hk:=wj _ hm hlb;have:OC (key L[(i+j)/2]) s= -1:=by simp [OC,hk]
    simp only [this,show ((-1:Int)<0) by decide,if_true,al];rw [wrap64 (by omega) (by omega)];exact .mk ⟨⟨(i+j)/2+1,j,by simp,by omega,hj,KA⟩,by omega⟩
   ·have hk:=vH _ hm (by omega);have: ¬OC (key L[(i+j)/2]) s<0:=by unfold OC;rw [if_neg (by omega)];split<;>omega
    simp only [this,if_false,al];exact .mk ⟨⟨i,(i+j)/2,rfl,hi,by omega,by omega⟩,by omega⟩
  ·simp only [show¬((i:Int)<(j:Int)) by omega,if_false];exact .mk (by show (i:Int)=(nq key L s:Int);omega)
 unfold bsearch;rw [cV];simp only [al];by_cases dK:nq key L s<L.length
 ·simp only [show ((nq key L s:Int)<(L.length:Int)) by omega,if_true,aP dK,hc,al];have h3:=vH _ dK (AT _);have:decide (OC (key L[nq key L s]) s=0)=fR key L s:=by
   unfold OC;rw [if_neg (by omega)];by_cases he:key L[nq key L s]=s
   ·rw [if_neg (by omega),decide_eq_true rfl,(hs.has s).2 ⟨dK,he⟩]
   ·rw [if_pos (by omega),decide_eq_false (by decide)];symm;rw [IN];intro hh;obtain ⟨_,hh⟩:=(hs.has s).1 hh;exact he hh
  rw [this]
 ·simp only [show¬((nq key L s:Int)<(L.length:Int)) by omega,if_false,al];have:fR key L s=false:=by rw [IN];intro hh;obtain ⟨hh,_⟩:=(hs.has s).1 hh;exact dK hh
  rw [this]
def EJ (key:α->Int)(L:List α)(a:α):List α:=L.take (nq key L (key a))++[a]++L.drop (nq key L (key a))
theorem J9 {L:List α}{a:α} {by':Nat}(hb:(L.length+1) *by'<=2^46):sC by' L (nq key L (key a):Int) [a]=some (EJ key L a):=by
 unfold sC;rw [if_pos]
 ·rfl
 ·exact ⟨by omega,by simpa using J7 L _,by simp,by simpa using hb⟩
theorem BN {L:List α} {by':Nat}(h:L.length *by'<=2^46):kp by' L=some L:=if_pos h
end
section
variable {α ρ:Type}
theorem take_succ {L:List α}{k:Nat}(hk:k<L.length):L.take (k+1)=L.take k++[L[k]]:=(List.take_append_getElem hk).symm
theorem rI {body:Int->Option (Int⊕(Unit⊕ρ))}(n:Nat)(p:Nat->Prop)(c:ρ)(h: ∀k,k<n->(∀j,j<k->p j)->(p k->body (k:Int)=some (.inl ((k+1:Nat):Int)))/\(¬p k->body (k:Int)=some (.inr (.inr c))))(he:body (n:Int)=some (.inr (.inl ()))):aM (Loop body 0) λr=>(r= .inl ()/\ ∀k,k<n->p k)\/(r= .inr c/\ ∃k,k<n/\ ¬p k):=by
 refine aM.count (λk=>(k:Int)) n (λk=> ∀j,j<k->p j) rfl (λj hj=>by omega) (λk hk hp=> ?_) (λhp=> ?_)
 ·by_cases hpk:p k
  ·refine .of ((h k hk hp).1 hpk) ⟨rfl,λj hj=> ?_⟩;by_cases WM:j=k
   ·subst WM;exact hpk
   ·exact hp j (by omega)
  ·exact .of ((h k hk hp).2 hpk) (.inr ⟨rfl,k,hk,hpk⟩)
 ·exact .of he (.inl ⟨rfl,hp⟩)
theorem xr [DecidableEq α]{a b:List α}{body:Int->Option (Int⊕(Unit⊕Bool))}(hl:a.length=b.length)(h: ∀k (ha:k<a.length)(hb:k<b.length),body (k:Int)=some (if a[k]=b[k] then .inl ((k+1:Nat):Int) else .inr (.inr false)))(he:body (a.length:Int)=some (.inr (.inl ()))):Loop body 0=some (if a=b then .inl () else .inr false):=by
 obtain ⟨r,e,hr⟩:=rI (body:=body) a.length (λk=>a[k]? =b[k]?) false (λk hk _=>by
  have hkb:k<b.length:=by omega
  rw [AI hk,AI hkb,h k hk hkb];constructor
  ·intro hh;rw [if_pos (by simpa using hh)]
  ·intro hh;rw [if_neg (by simpa using hh)]) he
 rw [e];rcases hr with ⟨rfl,lW⟩|⟨rfl,k,hk,dG⟩
 ·rw [if_pos];refine List.ext_getElem? λk=> ?_;by_cases hk:k<a.length
  ·exact lW k hk
  ·rw [AS (by omega),AS (by omega)]
 ·rw [if_neg];intro TW;subst TW;exact dG rfl
end
end Dn
/-
  Maps as lists of entries: what is there behind a store. Conditions: none.
-/
namespace Dn
open Go
end Dn
/-
  A state in which variables of packages have given data. Conditions: none.
-/
namespace Dn
open Go
def cellsD:Nat->DataW Unit->List Value
 |n+1,.agg ds=>ds.flatMap (cellsD n)
 |_,.lit (.int k v)=>[.int k v]
 |_,_=>[]
def X8 (cs:Array Value):Obj->Obj
 | .cells _ t z=> .cells cs t z
 |o=>o
def Kw (P:Program):List (String×DataW Unit)->Array Obj->Array Obj
 |[],h=>h
 |x::r,h=>match P.globalNamed x.1 with
  |some g=>Kw P r (h.modify g (X8 (cellsD 4 x.2).toArray))
  |none=>Kw P r h
noncomputable def am2 (P:Program)(l:List (String×DataW Unit))(os:Os)(args:Array Value):World:={World.holding P os ⟨#[],args,[]⟩ with heap:=Kw P l (World.holding P os ⟨#[],args,[]⟩).heap}
theorem R0 {a b:Bool}(h1:a=true)(h2:b=true):(a&&b)=true:=by rw [h1,h2];rfl
def Cg:List Char:=[99,117,116].map No
theorem am3:(Cg== "gc".toList)=false:=by kernel_rfl
theorem afB:(Cg== "spec".toList)=false:=by kernel_rfl
theorem ajd:(Cg== "cut".toList)=true:=by kernel_rfl
theorem Uu:(Cg== "carried".toList)=false:=by kernel_rfl
section
variable {P:Program}{L:List (List Char)}{ns:List Nat}
theorem M6 (h:P.initOrder=String.ofList (ns.map No)):P.initOrder.toList=ns.map No:=by rw [h,String.toList_ofList]
theorem afC {h s:List Char}(e:wordsSigns P.initOrder.toList=h::s::L)(h1:isSumSigns s=true)(h2:(h== "harness".toList)=true):P.mainIs=some (true,s):=by unfold Program.mainIs;rw [e];simp only [h1,h2,Bool.not_true,By,if_false,if_true]
theorem afD (e:behindMainWord (wordsSigns P.initOrder.toList)=Cg::L):P.make=some .cut:=by unfold Program.make;rw [e];simp only [am3,afB,ajd,Bool.or_false,By,if_false,Bool.true_or,if_true]
theorem acu (e:behindMainWord (wordsSigns P.initOrder.toList)=Cg::L)(h1:(stripLifts liftWords (Cg::L)).1=[])(h2:((stripLifts liftWords (Cg::L)).2.head? ==some "cut".toList)=true)
 (h3:P.doorFits []=true) (h4:P.laysLater=false) (h5:P.bearsReflect=false):P.mayEnter=true:=by
 unfold Program.mayEnter;rw [e];simp only [h1,h2,h3,h4,h5,List.contains_nil,OF,Bool.not_false,Bool.true_and,Bool.and_true,Bool.or_true]
theorem acy (e:behindMainWord (wordsSigns P.initOrder.toList)=Cg::L)(h1:(stripLifts liftWords (Cg::L)).1=[]):P.liftsFinal=false:=by
 unfold Program.liftsFinal Program.headLifts;rw [e]
 have h0:((Cg::L).head? ==some "carried".toList)=false:=by simp only [List.head?_cons];have:=Uu;simpa using this
 simp only [h0,h1,Bool.false_and,OF];split<;>rfl
theorem afE {c:OpenClaim}(h:P.make=some .cut)(hc:c.make= .cut):(P.make==some c.make)=true:=by rw [h,hc];rfl
theorem acz {c:OpenClaim}(h:P.liftsFinal=false)(hc:c.lifted=false):(c.lifted==P.liftsFinal)=true:=by rw [h,hc];rfl
end
end Dn
