import Derived.Test.YtmdlghpieagfhaaGreatDnPAcc2
import Derived.Test.YtmdlghpieagfhaaGreatDnPOctet3
/-
  Acceptors as bytes: what lasts. Conditions: none.
-/
set_option linter.unusedVariables false
set_option linter.unusedSimpArgs false
open List renaming length_append→cM,append_assoc→sh,length_cons→AI,length_map→AT,map_map→BY,mem_map→IT,map_id→No
open Go Dn
namespace Dn.S
def qf (l:List Int):List Int:=(l.map BI).flatten
@[simp] theorem CV (n : Int)(l : List Int) : qf (n :: l) = BI n ++ qf l := rfl
theorem Xt (l m:List Int):qf (l++m)=qf l++qf m:=by unfold qf;simp
theorem mO (n:Int):(BI n).length<=9:=by unfold BI;rw [Kl];have:=Br (zz n);omega
theorem FE (s:List UInt8):(Cb s).length<=9+s.length:=by unfold Cb;rw [cM,Kl,AK];have:=Br s.length;omega
theorem FF (l:List Int):(qf l).length<=9 *l.length:=by
 induction l with
 |nil=>simp [qf]
 |cons n l ih=>rw [CV,cM,AI];have:=mO n;omega
theorem Xu (l:List Int):tD (qf l):=by
 induction l with
 |nil=>intro x hx;simp [qf] at hx
 |cons n l ih=>exact (xj n).app ih
theorem oO {b:List Int}{n:Int}{r:List Int}(h:ln b=some (n,r)):r.length<=b.length:=by
 unfold ln at h;cases ht:qe b with
 |none=>rw [ht] at h;cases h
 |some p=>obtain ⟨u,r'⟩:=p;rw [ht] at h;injection h with h;injection h with h1 h2;subst h2;exact CU ht
theorem TS {b:List Int}{most:Nat}{s:List UInt8}{r:List Int}(h:vM b most=some (s,r)):r.length<=b.length:=by
 unfold vM at h;cases ht:qe b with
 |none=>rw [ht] at h;cases h
 |some p=>
  obtain ⟨u,r'⟩:=p;rw [ht] at h;simp only at h;split at h
  ·cases h
  ·injection h with h;injection h with h1 h2;subst h2;have:=CU ht;rw [List.length_drop];omega
def uD:Nat->List Int->Option (List Int×List Int)
 |0,b=>some ([],b)
 |k+1,b=>match ln b with
  |none=>none
  |some (n,r)=>match uD k r with
   |none=>none
   |some (l,r')=>some (n::l,r')
theorem TT: ∀(l:List Int),(∀n∈l,i64 n)-> ∀r,uD l.length (qf l++r)=some (l,r):=by
 intro l;induction l with
 |nil=>intro _ r;rfl
 |cons n l ih=>intro h r;simp only [AI,uD,CV,sh];rw [tE (h n (by simp))];simp only;rw [ih (λm hm=>h m (by simp [hm])) r]
theorem GA: ∀(k:Nat) {b:List Int},tD b-> ∀{l r:List Int},uD k b=some (l,r)->b=qf l++r/\l.length=k/\(∀n∈l,i64 n)/\tD r/\r.length<=b.length:=by
 intro k;induction k with
 |zero=>intro b hb l r h;injection h with h;injection h with h1 h2;subst h1;subst h2;exact ⟨rfl,rfl,by simp,hb,Nat.le_refl _⟩
 |succ k ih=>
  intro b hb l r h;simp only [uD] at h;cases ht:ln b with
  |none=>rw [ht] at h;cases h
  |some p=>
   obtain ⟨n,r1⟩:=p;rw [ht] at h;simp only at h;obtain ⟨e1,hn,xC⟩:=kW hb ht;cases wz:uD k r1 with
   |none=>rw [wz] at h;cases h
   |some p2=>
    obtain ⟨l2,r2⟩:=p2;rw [wz] at h;injection h with h;injection h with h1 h2;subst h1;subst h2;obtain ⟨e2,hl,hi,hr,hle⟩:=ih xC wz;have:=oO ht;exact ⟨by rw [CV,sh,<-e2];exact e1,by rw [AI,hl],λm hm=>by
     rcases List.mem_cons.1 hm with rfl|hm
     ·exact hn
     ·exact hi m hm,hr,by omega⟩
def uE (p:List aa):List Int:=BI (p.length:Int)++qf (p.map (·.By))++match p with|[]=>[]|e::_=>BI e.View++Cb e.Value
structure OT (p:List aa):Prop where
 len:p.length<=100
 one: ∀e∈p,∀f∈p,e.View=f.View/\e.Value=f.Value
 xh: ∀e∈p,i64 e.By
 v: ∀e∈p,i64 e.View
 x: ∀e∈p,e.Value.length<=6000
theorem OT.nil:OT []:=⟨by simp,by simp,by simp,by simp,by simp⟩
def mkP (l:List Int)(v:Int)(x:List UInt8):List aa:=l.map λy=>⟨y,v,x⟩
theorem OT.mk' {p:List aa}{e:aa}(h:OT p)(he:e∈p):p=mkP (p.map (·.By)) e.View e.Value:=by
 unfold mkP;rw [BY];conv=>lhs;rw [<-No p]
 apply List.map_congr_left;intro f hf;obtain ⟨h1,h2⟩:=h.one f hf e he;obtain ⟨a,b,c⟩:=f;simp only at h1 h2;simp only [id,Function.comp,h1,h2]
def Ep (b:List Int):Option (List aa×List Int):=match ln b with
 |none=>none
 |some (n,r)=>if n<0\/100<n then none else if n=0 then some ([],r) else match uD n.toNat r with
  |none=>none
  |some (l,r1)=>match ln r1 with
   |none=>none
   |some (v,r2)=>match vM r2 6000 with
    |none=>none
    |some (x,r3)=>some (mkP l v x,r3)
theorem Xv {p:List aa}(h:OT p)(r:List Int):Ep (uE p++r)=some (p,r):=by
 have hl:=h.len;unfold Ep uE;rw [sh,sh,tE ⟨by omega,by omega⟩];simp only;rw [if_neg (by omega)];cases p with
 |nil=>simp [qf]
 |cons e p=>have hm:=h.mk' (e:=e) (by simp);rw [if_neg (by simp only [AI];omega),show Int.toNat (((e::p).length:Nat):Int)=((e::p).map (·.By)).length by simp,TT _ (λn hn=>by obtain ⟨f,hf,rfl⟩:=IT.1 hn;exact h.xh f hf)];simp only;rw [sh,tE (h.v e (by simp))];simp only;rw [MZ (h.x e (by simp)) (by decide)];simp only;rw [<-hm]
theorem TU {b:List Int}(hb:tD b){p:List aa}{r:List Int}(h:Ep b=some (p,r)):b=uE p++r/\OT p/\tD r:=by
 unfold Ep at h;cases ht:ln b with
 |none=>rw [ht] at h;cases h
 |some q=>
  obtain ⟨n,r0⟩:=q;obtain ⟨e1,hn,XY⟩:=kW hb ht;rw [ht] at h;simp only at h;split at h
  ·cases h
  ·rename_i hc;split at h
   ·rename_i XO;injection h with h;injection h with h1 h2;subst h1;subst h2;subst XO;exact ⟨by rw [e1];unfold uE;simp [qf],.nil,XY⟩
   ·rename_i XO;cases KI:uD n.toNat r0 with
    |none=>rw [KI] at h;cases h
    |some q1=>
     obtain ⟨l,r1⟩:=q1;obtain ⟨e2,hl,hi,xC,_⟩:=GA _ XY KI;rw [KI] at h;simp only at h;cases wz:ln r1 with
     |none=>rw [wz] at h;cases h
     |some q2=>
      obtain ⟨v,r2⟩:=q2;obtain ⟨e3,hv,Cl⟩:=kW xC wz;rw [wz] at h;simp only at h;cases XX:vM r2 6000 with
      |none=>rw [XX] at h;cases h
      |some q3=>
       obtain ⟨x,r3⟩:=q3;obtain ⟨e4,hx,hr3⟩:=Km Cl XX;rw [XX] at h;injection h with h;injection h with h1 h2;subst h1;subst h2;have ov: ∀f∈mkP l v x,∃y∈l,f=⟨y,v,x⟩:=λf hf=>by obtain ⟨y,hy,rfl⟩:=IT.1 hf;exact ⟨y,hy,rfl⟩
       refine ⟨?_,⟨by simp only [mkP,AT];omega,λf hf g hg=> ?_,λf hf=> ?_,λf hf=> ?_,λf hf=> ?_⟩,hr3⟩
       ·have EC:(mkP l v x).map (·.By)=l:=by
         unfold mkP;rw [BY];conv=>rhs;rw [<-No l]
         rfl
        have hlen:(mkP l v x).length=l.length:=by unfold mkP;simp
        unfold uE;rw [EC,hlen,hl,Int.toNat_of_nonneg (by omega),e1,e2,e3,e4];obtain ⟨y,l',rfl⟩: ∃y l',l=y::l':=by
         cases l with
         |nil=>simp at hl;omega
         |cons y l'=>exact ⟨y,l',rfl⟩
        simp [mkP]
       ·obtain ⟨y,_,rfl⟩:=ov f hf;obtain ⟨z,_,rfl⟩:=ov g hg;exact ⟨rfl,rfl⟩
       ·obtain ⟨y,hy,rfl⟩:=ov f hf;exact hi y hy
       ·obtain ⟨y,hy,rfl⟩:=ov f hf;exact hv
       ·obtain ⟨y,hy,rfl⟩:=ov f hf;exact hx
def yQ (b:Bool):Int:=if b then 1 else 0
def OU (a:ah):List Int:=BI a.View++(BI (yQ a.Has)++(BI a.At++(Cb a.Value++uE a.Proof)))
structure Vn (a:ah):Prop where
 view:i64 a.View
 at_:i64 a.At
 value:a.Value.length<=6000
 proof:OT a.Proof
theorem TV (p:List aa):tD (uE p):=by
 unfold uE;refine ((xj _).app (Xu _)).app ?_;cases p with
 |nil=>intro x hx;simp at hx
 |cons e p=>exact (xj _).app (MY _)
theorem abL (a:ah):tD (OU a):=(xj _).app ((xj _).app ((xj _).app ((MY _).app (TV _))))
theorem TW {p:List aa}(h:OT p):(uE p).length<=8000:=by
 unfold uE;have h1:=mO (p.length:Int);have h2:=FF (p.map (·.By));have h3:=h.len;rw [AT] at h2;rw [cM,cM];cases p with
 |nil=>simp only [List.length_nil] at *;omega
 |cons e p=>have h4:=mO e.View;have h5:=FE e.Value;have h6:=h.x e (by simp);simp only [cM];omega
theorem abM {a:ah}(h:Vn a):(OU a).length<=20000:=by unfold OU;have h1:=mO a.View;have h2:=mO (yQ a.Has);have h3:=mO a.At;have h4:=FE a.Value;have h5:=TW h.proof;have:=h.value;simp only [cM];omega
theorem Rs (b:Bool):i64 (yQ b):=by cases b<;>exact ⟨by decide,by decide⟩
theorem am3 {p:List aa}(hp:OT p){b:List Int}(hb:b.length<=2^43){body:List Int×Int->Option ((List Int×Int)⊕List Int)}(h: ∀k (hk:k<p.length)(l:List Int),l.length<=2^44->body (l,(k:Int))=some (.inl (l++BI p[k].By,((k+1:Nat):Int))))(he: ∀l:List Int,body (l,(p.length:Int))=some (.inr l)): Loop body (b,0)=some (b++qf (p.map (·.By))):=by
 have hl:=hp.len;refine aL.eq (aL.count (λk=>(b++qf ((p.take k).map (·.By)),(k:Int))) p.length (λ_=>True) (by simp [qf]) trivial (λk hk _=> ?_) (λ_=> ?_))
 ·have h2:=FF ((p.take k).map (·.By));rw [AT,List.length_take] at h2;rw [h k hk _ (by rw [cM];omega)];refine .mk ⟨?_,trivial⟩;rw [List.take_add_one,List.getElem?_eq_getElem hk,List.map_append,Xt,sh];simp [qf]
 ·rw [he,List.take_length];exact .mk rfl
theorem TX {a:ah}(h:Vn a):nT a=some (OU a):=by
 have h1:=mO a.View;have h2:=mO (yQ a.Has);have h3:=mO a.At;have h4:=FE a.Value;have h5:=mO (a.Proof.length:Int);have h6:=FF (a.Proof.map (·.By));have hv:=h.value;have hl:=h.proof.len;rw [AT] at h6;unfold nT;rw [tG (by simp) h.view,au,show iJ a.Has=some (yQ a.Has) by unfold iJ yQ;cases a.Has<;>rfl,au,List.nil_append,tG (by omega) (Rs _),au,tG (by simp only [cM];omega) h.at_,au,Kn (by simp only [cM];omega) (by omega),au,tG (by simp only [cM];omega) ⟨by omega,by omega⟩,au];rw [am3 h.proof (by simp only [cM];omega) (λk hk l hl=>by
  unfold od;simp only;rw [if_pos (by omega),bA hk,tG hl (h.proof.xh _ (List.getElem_mem hk)),au,wrap64 (by omega) (by omega)];rfl) (λl=>by
  unfold od;simp only;rw [if_neg (by omega)]),au,CQ,au]
 unfold OU uE;cases hp:a.Proof with
 |nil=>simp [rn]
 |cons e p=>
  rw [hp] at h6 hl;simp only [rn,if_true];have he:e∈a.Proof:=by rw [hp];simp
  have LN:=h.proof.x e he;rw [hp] at h5;rw [tG (by simp only [cM];omega) (h.proof.v e he),au];have h7:=mO e.View;rw [Kn (by simp only [cM];omega) (by omega),au,au];simp only [sh]
end Dn.S
