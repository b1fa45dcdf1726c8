import Derived.Test.YtmdlghpieagfhaaGreatDnPAcc2
import Derived.Test.YtmdlghpieagfhaaGreatDnPOctet3
/-
  Acceptors as bytes: what lasts. Conditions: none.
-/
set_option linter.unusedVariables false
set_option linter.unusedSimpArgs false
open List renaming length_append→eJ,append_assoc→sh,length_cons→AI,length_map→AT,getElem_cons_zero→BY,getElem_mem→IN,nil_append→IS,map_map→IT,mem_map→No,map_id→OF
open Go Dn
namespace Dn.S
def qA (l:List Int):List Int:=(l.map zt).flatten
@[simp] theorem C7 (n : Int)(l : List Int) : qA (n :: l) = zt n ++ qA l := rfl
theorem Vp (l m:List Int):qA (l++m)=qA l++qA m:=by unfold qA;simp
theorem iF (n:Int):(zt n).length<=9:=by unfold zt;rw [EG];have:=rO (zz n);omega
theorem Bo (s:List UInt8):(AA s).length<=9+s.length:=by unfold AA;rw [eJ,EG,xB];have:=rO s.length;omega
theorem Bp (l:List Int):(qA l).length<=9 *l.length:=by
 induction l with
 |nil=>simp [qA]
 |cons n l ih=>rw [C7,eJ,AI];have:=iF n;omega
theorem Vq (l:List Int):qO (qA l):=by
 induction l with
 |nil=>intro x hx;simp [qA] at hx
 |cons n l ih=>exact (xC n).app ih
theorem kb {b:List Int}{n:Int}{r:List Int}(h:fS b=some (n,r)):r.length<=b.length:=by
 unfold fS at h;cases ht:nq b with
 |none=>rw [ht] at h;cases h
 |some p=>obtain ⟨u,r'⟩:=p;rw [ht] at h;injection h with h;injection h with h1 h2;subst h2;exact yK ht
theorem J4 {b:List Int}{most:Nat}{s:List UInt8}{r:List Int}(h:uK b most=some (s,r)):r.length<=b.length:=by
 unfold uK at h;cases ht:nq b with
 |none=>rw [ht] at h;cases h
 |some p=>
  obtain ⟨u,r'⟩:=p;rw [ht] at h;simp only at h;split at h
  ·cases h
  ·injection h with h;injection h with h1 h2;subst h2;have:=yK ht;rw [List.length_drop];omega
def jd:Nat->List Int->Option (List Int×List Int)
 |0,b=>some ([],b)
 |k+1,b=>match fS b with
  |none=>none
  |some (n,r)=>match jd k r with
   |none=>none
   |some (l,r')=>some (n::l,r')
theorem Ss: ∀(l:List Int),(∀n∈l,i64 n)-> ∀r,jd l.length (qA l++r)=some (l,r):=by
 intro l;induction l with
 |nil=>intro _ r;rfl
 |cons n l ih=>intro h r;simp only [AI,jd,C7,sh];rw [tH (h n (by simp))];simp only;rw [ih (λm hm=>h m (by simp [hm])) r]
theorem vT: ∀(k:Nat) {b:List Int},qO b-> ∀{l r:List Int},jd k b=some (l,r)->b=qA l++r/\l.length=k/\(∀n∈l,i64 n)/\qO r/\r.length<=b.length:=by
 intro k;induction k with
 |zero=>intro b hb l r h;injection h with h;injection h with h1 h2;subst h1;subst h2;exact ⟨rfl,rfl,by simp,hb,Nat.le_refl _⟩
 |succ k ih=>
  intro b hb l r h;simp only [jd] at h;cases ht:fS b with
  |none=>rw [ht] at h;cases h
  |some p=>
   obtain ⟨n,r1⟩:=p;rw [ht] at h;simp only at h;obtain ⟨e1,hn,zO⟩:=iA hb ht;cases tU:jd k r1 with
   |none=>rw [tU] at h;cases h
   |some p2=>
    obtain ⟨l2,r2⟩:=p2;rw [tU] at h;injection h with h;injection h with h1 h2;subst h1;subst h2;obtain ⟨e2,hl,hi,hr,hle⟩:=ih zO tU;have:=kb ht;exact ⟨by rw [C7,sh,<-e2];exact e1,by rw [AI,hl],λm hm=>by
     rcases List.mem_cons.1 hm with rfl|hm
     ·exact hn
     ·exact hi m hm,hr,by omega⟩
def sG (p:List aa):List Int:=zt (p.length:Int)++qA (p.map (·.By))++match p with|[]=>[]|e::_=>zt e.View++AA e.Value
structure N0 (p:List aa):Prop where
 len:p.length<=100
 one: ∀e∈p,∀f∈p,e.View=f.View/\e.Value=f.Value
 wL: ∀e∈p,i64 e.By
 v: ∀e∈p,i64 e.View
 x: ∀e∈p,e.Value.length<=6000
theorem N0.nil:N0 []:=⟨by simp,by simp,by simp,by simp,by simp⟩
def Qn (l:List Int)(v:Int)(x:List UInt8):List aa:=l.map λy=>⟨y,v,x⟩
theorem N0.mk' {p:List aa}{e:aa}(h:N0 p)(he:e∈p):p=Qn (p.map (·.By)) e.View e.Value:=by
 unfold Qn;rw [IT];conv=>lhs;rw [<-OF p]
 apply List.map_congr_left;intro f hf;obtain ⟨h1,h2⟩:=h.one f hf e he;obtain ⟨a,b,c⟩:=f;simp only at h1 h2;simp only [id,Function.comp,h1,h2]
def xD (b:List Int):Option (List aa×List Int):=match fS b with
 |none=>none
 |some (n,r)=>if n<0\/100<n then none else if n=0 then some ([],r) else match jd n.toNat r with
  |none=>none
  |some (l,r1)=>match fS r1 with
   |none=>none
   |some (v,r2)=>match uK r2 6000 with
    |none=>none
    |some (x,r3)=>some (Qn l v x,r3)
theorem Vr {p:List aa}(h:N0 p)(r:List Int):xD (sG p++r)=some (p,r):=by
 have hl:=h.len;unfold xD sG;rw [sh,sh,tH ⟨by omega,by omega⟩];simp only;rw [if_neg (by omega)];cases p with
 |nil=>simp [qA]
 |cons e p=>have hm:=h.mk' (e:=e) (by simp);rw [if_neg (by simp only [AI];omega),show Int.toNat (((e::p).length:Nat):Int)=((e::p).map (·.By)).length by simp,Ss _ (λn hn=>by obtain ⟨f,hf,rfl⟩:=No.1 hn;exact h.wL f hf)];simp only;rw [sh,tH (h.v e (by simp))];simp only;rw [Mn (h.x e (by simp)) (by decide)];simp only;rw [<-hm]
theorem Su {b:List Int}(hb:qO b){p:List aa}{r:List Int}(h:xD b=some (p,r)):b=sG p++r/\N0 p/\qO r:=by
 unfold xD at h;cases ht:fS b with
 |none=>rw [ht] at h;cases h
 |some q=>
  obtain ⟨n,r0⟩:=q;obtain ⟨e1,hn,VX⟩:=iA hb ht;rw [ht] at h;simp only at h;split at h
  ·cases h
  ·rename_i hc;split at h
   ·rename_i VK;injection h with h;injection h with h1 h2;subst h1;subst h2;subst VK;exact ⟨by rw [e1];unfold sG;simp [qA],.nil,VX⟩
   ·rename_i VK;cases Ga:jd n.toNat r0 with
    |none=>rw [Ga] at h;cases h
    |some q1=>
     obtain ⟨l,r1⟩:=q1;obtain ⟨e2,hl,hi,zO,_⟩:=vT _ VX Ga;rw [Ga] at h;simp only at h;cases tU:fS r1 with
     |none=>rw [tU] at h;cases h
     |some q2=>
      obtain ⟨v,r2⟩:=q2;obtain ⟨e3,hv,Hf⟩:=iA zO tU;rw [tU] at h;simp only at h;cases VW:uK r2 6000 with
      |none=>rw [VW] at h;cases h
      |some q3=>
       obtain ⟨x,r3⟩:=q3;obtain ⟨e4,hx,W6⟩:=C6 Hf VW;rw [VW] at h;injection h with h;injection h with h1 h2;subst h1;subst h2;have qW: ∀f∈Qn l v x,∃y∈l,f=⟨y,v,x⟩:=λf hf=>by obtain ⟨y,hy,rfl⟩:=No.1 hf;exact ⟨y,hy,rfl⟩
       refine ⟨?_,⟨by simp only [Qn,AT];omega,λf hf g hg=> ?_,λf hf=> ?_,λf hf=> ?_,λf hf=> ?_⟩,W6⟩
       ·have Hh:(Qn l v x).map (·.By)=l:=by
         unfold Qn;rw [IT];conv=>rhs;rw [<-OF l]
         rfl
        have hlen:(Qn l v x).length=l.length:=by unfold Qn;simp
        unfold sG;rw [Hh,hlen,hl,Int.toNat_of_nonneg (by omega),e1,e2,e3,e4];obtain ⟨y,l',rfl⟩: ∃y l',l=y::l':=by
         cases l with
         |nil=>simp at hl;omega
         |cons y l'=>exact ⟨y,l',rfl⟩
        simp [Qn]
       ·obtain ⟨y,_,rfl⟩:=qW f hf;obtain ⟨z,_,rfl⟩:=qW g hg;exact ⟨rfl,rfl⟩
       ·obtain ⟨y,hy,rfl⟩:=qW f hf;exact hi y hy
       ·obtain ⟨y,hy,rfl⟩:=qW f hf;exact hv
       ·obtain ⟨y,hy,rfl⟩:=qW f hf;exact hx
def uL (b:Bool):Int:=if b then 1 else 0
def J5 (a:ae):List Int:=zt a.View++(zt (uL a.Has)++(zt a.At++(AA a.Value++sG a.Proof)))
structure Qo (a:ae):Prop where
 view:i64 a.View
 at_:i64 a.At
 value:a.Value.length<=6000
 proof:N0 a.Proof
theorem Sv (p:List aa):qO (sG p):=by
 unfold sG;refine ((xC _).app (Vq _)).app ?_;cases p with
 |nil=>intro x hx;simp at hx
 |cons e p=>exact (xC _).app (Mm _)
theorem Qp (a:ae):qO (J5 a):=(xC _).app ((xC _).app ((xC _).app ((Mm _).app (Sv _))))
theorem Sw {p:List aa}(h:N0 p):(sG p).length<=8000:=by
 unfold sG;have h1:=iF (p.length:Int);have h2:=Bp (p.map (·.By));have h3:=h.len;rw [AT] at h2;rw [eJ,eJ];cases p with
 |nil=>simp only [List.length_nil] at *;omega
 |cons e p=>have h4:=iF e.View;have h5:=Bo e.Value;have h6:=h.x e (by simp);simp only [eJ];omega
theorem Qq {a:ae}(h:Qo a):(J5 a).length<=20000:=by unfold J5;have h1:=iF a.View;have h2:=iF (uL a.Has);have h3:=iF a.At;have h4:=Bo a.Value;have h5:=Sw h.proof;have:=h.value;simp only [eJ];omega
theorem J6 (b:Bool):i64 (uL b):=by cases b<;>exact ⟨by decide,by decide⟩
theorem ade {p:List aa}(hp:N0 p){b:List Int}(hb:b.length<=2^43){body:List Int×Int->Option ((List Int×Int)⊕List Int)}(h: ∀k (hk:k<p.length)(l:List Int),l.length<=2^44->body (l,(k:Int))=some (.inl (l++zt p[k].By,((k+1:Nat):Int))))(he: ∀l:List Int,body (l,(p.length:Int))=some (.inr l)): Loop body (b,0)=some (b++qA (p.map (·.By))):=by
 have hl:=hp.len;refine aL.eq (aL.count (λk=>(b++qA ((p.take k).map (·.By)),(k:Int))) p.length (λ_=>True) (by simp [qA]) trivial (λk hk _=> ?_) (λ_=> ?_))
 ·have h2:=Bp ((p.take k).map (·.By));rw [AT,List.length_take] at h2;rw [h k hk _ (by rw [eJ];omega)];refine .mk ⟨?_,trivial⟩;rw [List.take_add_one,List.getElem?_eq_getElem hk,List.map_append,Vp,sh];simp [qA]
 ·rw [he,List.take_length];exact .mk rfl
theorem Sx {a:ae}(h:Qo a):ol a=some (J5 a):=by
 have h1:=iF a.View;have h2:=iF (uL a.Has);have h3:=iF a.At;have h4:=Bo a.Value;have h5:=iF (a.Proof.length:Int);have h6:=Bp (a.Proof.map (·.By));have hv:=h.value;have hl:=h.proof.len;rw [AT] at h6;unfold ol;rw [tJ (by simp) h.view,ap,show iN a.Has=some (uL a.Has) by unfold iN uL;cases a.Has<;>rfl,ap,IS,tJ (by omega) (J6 _),ap,tJ (by simp only [eJ];omega) h.at_,ap,JX (by simp only [eJ];omega) (by omega),ap,tJ (by simp only [eJ];omega) ⟨by omega,by omega⟩,ap];rw [ade h.proof (by simp only [eJ];omega) (λk hk l hl=>by
  unfold oN;simp only;rw [if_pos (by omega),bh hk,tJ hl (h.proof.wL _ (IN hk)),ap,wrap64 (by omega) (by omega)];rfl) (λl=>by
  unfold oN;simp only;rw [if_neg (by omega)]),ap,yI,ap]
 unfold J5 sG;cases hp:a.Proof with
 |nil=>simp [Mi]
 |cons e p=>
  rw [hp] at h6 hl;simp only [Mi,if_true];have he:e∈a.Proof:=by rw [hp];simp
  have Kn:=h.proof.x e he;rw [hp] at h5;rw [tJ (by simp only [eJ];omega) (h.proof.v e he),ap];have h7:=iF e.View;rw [JX (by simp only [eJ];omega) (by omega),ap,ap];simp only [sh]
theorem Sy {a:ae}(h:Qo a):IM (u5 a)=some (J5 a):=by
 have h1:=iF a.View;have h2:=iF (uL a.Has);have h3:=iF a.At;have h4:=Bo a.Value;have h5:=iF (a.Proof.length:Int);have h6:=Bp (a.Proof.map (·.By));have hv:=h.value;have hl:=h.proof.len;rw [AT] at h6;unfold IM;have c1:(u5 a).Has=a.Has:=rfl;have c2:(u5 a).View=a.View:=rfl;have c3:(u5 a).At=a.At:=rfl;have c4:(u5 a).Value=a.Value:=rfl;have c5:(u5 a).Proof=a.Proof:=rfl;rw [c1,c2,c3,c4,c5];rw [show (if a.Has then some 1 else some 0:Option Int)=some (uL a.Has) by unfold uL;cases a.Has<;>rfl,ap,tK (by simp) h.view,ap,IS,tK (by omega) (J6 _),ap,tK (by simp only [eJ];omega) h.at_,ap,JY (by simp only [eJ];omega) (by omega),ap,tK (by simp only [eJ];omega) ⟨by omega,by omega⟩,ap];rw [ade h.proof (by simp only [eJ];omega) (λk hk l hl=>by
  unfold CF;rw [c5];simp only;rw [if_pos (by omega),bh hk,tK hl (h.proof.wL _ (IN hk)),ap,wrap64 (by omega) (by omega)];rfl) (λl=>by
  unfold CF;rw [c5];simp only;rw [if_neg (by omega)]),ap]
 unfold J5 sG;cases hp:a.Proof with
 |nil=>simp
 |cons e p=>
  rw [hp] at h6 hl;have he:e∈a.Proof:=by rw [hp];simp
  have Kn:=h.proof.x e he;rw [hp] at h5;rw [if_pos (by simp only [AI];omega),jT (by simp),BY];rw [tK (by simp only [eJ];omega) (h.proof.v e he),ap];have h7:=iF e.View;rw [jT (by simp),BY,JY (by simp only [eJ];omega) (by omega),ap,ap];simp only [sh]
end Dn.S
