import Derived.Test.YtmdlghpieagfhaaGreatDnPAcc2
import Derived.Test.YtmdlghpieagfhaaGreatDnPOctet3
/- Acceptors as bytes: what lasts. Conditions: none. -/
set_option linter.unusedVariables false
set_option linter.unusedSimpArgs false
open List renaming length_append→cV,append_assoc→sh,length_cons→AI,length_map→AT,map_map→BY,mem_map→IT,map_id→No
open Go Dn
namespace Dn.S
def qo (l:List Int):List Int:=(l.map Cc).flatten
@[simp] theorem Dl (n : Int)(l : List Int) : qo (n :: l) = Cc n ++ qo l := rfl
theorem X4 (l m:List Int):qo (l++m)=qo l++qo m:=by unfold qo;simp
theorem nb (n:Int):(Cc n).length<=9:=by unfold Cc;rw [KH];have:=BV (zz n);omega
theorem F8 (s:List UInt8):(CE s).length<=9+s.length:=by unfold CE;rw [cV,KH,Be];have:=BV s.length;omega
theorem F9 (l:List Int):(qo l).length<=9 *l.length:=by
 induction l with
 |nil=>simp [qo]
 |cons n l ih=>rw [Dl,cV,AI];have:=nb n;omega
theorem X5 (l:List Int):tR (qo l):=by
 induction l with
 |nil=>intro x hx;simp [qo] at hx
 |cons n l ih=>exact (xF n).app ih
theorem oY {b:List Int}{n:Int}{r:List Int}(h:lE b=some (n,r)):r.length<=b.length:=by
 unfold lE at h;cases ht:qn b with
 |none=>rw [ht] at h;cases h
 |some p=>obtain ⟨u,r'⟩:=p;rw [ht] at h;injection h with h;injection h with h1 h2;subst h2;exact Dk ht
theorem Uu {b:List Int}{most:Nat}{s:List UInt8}{r:List Int}(h:vZ b most=some (s,r)):r.length<=b.length:=by
 unfold vZ at h;cases ht:qn b with
 |none=>rw [ht] at h;cases h
 |some p=>
  obtain ⟨u,r'⟩:=p;rw [ht] at h;simp only at h;split at h
  ·cases h
  ·injection h with h;injection h with h1 h2;subst h2;have:=Dk ht;rw [List.length_drop];omega
def uO:Nat->List Int->Option (List Int×List Int)
 |0,b=>some ([],b)
 |k+1,b=>match lE b with
  |none=>none
  |some (n,r)=>match uO k r with
   |none=>none
   |some (l,r')=>some (n::l,r')
theorem Uv: ∀(l:List Int),(∀n∈l,i64 n)-> ∀r,uO l.length (qo l++r)=some (l,r):=by
 intro l;induction l with
 |nil=>intro _ r;rfl
 |cons n l ih=>intro h r;simp only [AI,uO,Dl,sh];rw [tT (h n (by simp))];simp only;rw [ih (λm hm=>h m (by simp [hm])) r]
theorem G3: ∀(k:Nat) {b:List Int},tR b-> ∀{l r:List Int},uO k b=some (l,r)->b=qo l++r/\l.length=k/\(∀n∈l,i64 n)/\tR r/\r.length<=b.length:=by
 intro k;induction k with
 |zero=>intro b hb l r h;injection h with h;injection h with h1 h2;subst h1;subst h2;exact ⟨rfl,rfl,by simp,hb,Nat.le_refl _⟩
 |succ k ih=>
  intro b hb l r h;simp only [uO] at h;cases ht:lE b with
  |none=>rw [ht] at h;cases h
  |some p=>
   obtain ⟨n,r1⟩:=p;rw [ht] at h;simp only at h;obtain ⟨e1,hn,xS⟩:=lp hb ht;cases wN:uO k r1 with
   |none=>rw [wN] at h;cases h
   |some p2=>
    obtain ⟨l2,r2⟩:=p2;rw [wN] at h;injection h with h;injection h with h1 h2;subst h1;subst h2;obtain ⟨e2,hl,hi,hr,hle⟩:=ih xS wN;have:=oY ht;exact ⟨by rw [Dl,sh,<-e2];exact e1,by rw [AI,hl],λm hm=>by
     rcases List.mem_cons.1 hm with rfl|hm
     ·exact hn
     ·exact hi m hm,hr,by omega⟩
def uP (p:List aa):List Int:=Cc (p.length:Int)++qo (p.map (·.By))++match p with|[]=>[]|e::_=>Cc e.View++CE e.Value
structure Pn (p:List aa):Prop where
 len:p.length<=100
 one: ∀e∈p,∀f∈p,e.View=f.View/\e.Value=f.Value
 xD: ∀e∈p,i64 e.By
 v: ∀e∈p,i64 e.View
 x: ∀e∈p,e.Value.length<=6000
theorem Pn.nil:Pn []:=⟨by simp,by simp,by simp,by simp,by simp⟩
def mkP (l:List Int)(v:Int)(x:List UInt8):List aa:=l.map λy=>⟨y,v,x⟩
theorem Pn.mk' {p:List aa}{e:aa}(h:Pn p)(he:e∈p):p=mkP (p.map (·.By)) e.View e.Value:=by
 unfold mkP;rw [BY];conv=>lhs;rw [<-No p]
 apply List.map_congr_left;intro f hf;obtain ⟨h1,h2⟩:=h.one f hf e he;obtain ⟨a,b,c⟩:=f;simp only at h1 h2;simp only [id,Function.comp,h1,h2]
def EO (b:List Int):Option (List aa×List Int):=match lE b with
 |none=>none
 |some (n,r)=>if n<0\/100<n then none else if n=0 then some ([],r) else match uO n.toNat r with
  |none=>none
  |some (l,r1)=>match lE r1 with
   |none=>none
   |some (v,r2)=>match vZ r2 6000 with
    |none=>none
    |some (x,r3)=>some (mkP l v x,r3)
theorem X6 {p:List aa}(h:Pn p)(r:List Int):EO (uP p++r)=some (p,r):=by
 have hl:=h.len;unfold EO uP;rw [sh,sh,tT ⟨by omega,by omega⟩];simp only;rw [if_neg (by omega)];cases p with
 |nil=>simp [qo]
 |cons e p=>have hm:=h.mk' (e:=e) (by simp);rw [if_neg (by simp only [AI];omega),show Int.toNat (((e::p).length:Nat):Int)=((e::p).map (·.By)).length by simp,Uv _ (λn hn=>by obtain ⟨f,hf,rfl⟩:=IT.1 hn;exact h.xD f hf)];simp only;rw [sh,tT (h.v e (by simp))];simp only;rw [Ns (h.x e (by simp)) (by decide)];simp only;rw [<-hm]
theorem Uw {b:List Int}(hb:tR b){p:List aa}{r:List Int}(h:EO b=some (p,r)):b=uP p++r/\Pn p/\tR r:=by
 unfold EO at h;cases ht:lE b with
 |none=>rw [ht] at h;cases h
 |some q=>
  obtain ⟨n,r0⟩:=q;obtain ⟨e1,hn,YF⟩:=lp hb ht;rw [ht] at h;simp only at h;split at h
  ·cases h
  ·rename_i hc;split at h
   ·rename_i Yx;injection h with h;injection h with h1 h2;subst h1;subst h2;subst Yx;exact ⟨by rw [e1];unfold uP;simp [qo],.nil,YF⟩
   ·rename_i Yx;cases La:uO n.toNat r0 with
    |none=>rw [La] at h;cases h
    |some q1=>
     obtain ⟨l,r1⟩:=q1;obtain ⟨e2,hl,hi,xS,_⟩:=G3 _ YF La;rw [La] at h;simp only at h;cases wN:lE r1 with
     |none=>rw [wN] at h;cases h
     |some q2=>
      obtain ⟨v,r2⟩:=q2;obtain ⟨e3,hv,CU⟩:=lp xS wN;rw [wN] at h;simp only at h;cases YE:vZ r2 6000 with
      |none=>rw [YE] at h;cases h
      |some q3=>
       obtain ⟨x,r3⟩:=q3;obtain ⟨e4,hx,hr3⟩:=KI CU YE;rw [YE] at h;injection h with h;injection h with h1 h2;subst h1;subst h2;have kG: ∀f∈mkP l v x,∃y∈l,f=⟨y,v,x⟩:=λf hf=>by obtain ⟨y,hy,rfl⟩:=IT.1 hf;exact ⟨y,hy,rfl⟩
       refine ⟨?_,⟨by simp only [mkP,AT];omega,λf hf g hg=> ?_,λf hf=> ?_,λf hf=> ?_,λf hf=> ?_⟩,hr3⟩
       ·have Du:(mkP l v x).map (·.By)=l:=by
         unfold mkP;rw [BY];conv=>rhs;rw [<-No l]
         rfl
        have hlen:(mkP l v x).length=l.length:=by unfold mkP;simp
        unfold uP;rw [Du,hlen,hl,Int.toNat_of_nonneg (by omega),e1,e2,e3,e4];obtain ⟨y,l',rfl⟩: ∃y l',l=y::l':=by
         cases l with
         |nil=>simp at hl;omega
         |cons y l'=>exact ⟨y,l',rfl⟩
        simp [mkP]
       ·obtain ⟨y,_,rfl⟩:=kG f hf;obtain ⟨z,_,rfl⟩:=kG g hg;exact ⟨rfl,rfl⟩
       ·obtain ⟨y,hy,rfl⟩:=kG f hf;exact hi y hy
       ·obtain ⟨y,hy,rfl⟩:=kG f hf;exact hv
       ·obtain ⟨y,hy,rfl⟩:=kG f hf;exact hx
def zn (b:Bool):Int:=if b then 1 else 0
def Po (a:af):List Int:=Cc a.View++(Cc (zn a.Has)++(Cc a.At++(CE a.Value++uP a.Proof)))
structure VW (a:af):Prop where
 view:i64 a.View
 at_:i64 a.At
 value:a.Value.length<=6000
 proof:Pn a.Proof
theorem Ux (p:List aa):tR (uP p):=by
 unfold uP;refine ((xF _).app (X5 _)).app ?_;cases p with
 |nil=>intro x hx;simp at hx
 |cons e p=>exact (xF _).app (Nr _)
theorem acw (a:af):tR (Po a):=(xF _).app ((xF _).app ((xF _).app ((Nr _).app (Ux _))))
theorem Uy {p:List aa}(h:Pn p):(uP p).length<=8000:=by
 unfold uP;have h1:=nb (p.length:Int);have h2:=F9 (p.map (·.By));have h3:=h.len;rw [AT] at h2;rw [cV,cV];cases p with
 |nil=>simp only [List.length_nil] at *;omega
 |cons e p=>have h4:=nb e.View;have h5:=F8 e.Value;have h6:=h.x e (by simp);simp only [cV];omega
theorem acx {a:af}(h:VW a):(Po a).length<=20000:=by unfold Po;have h1:=nb a.View;have h2:=nb (zn a.Has);have h3:=nb a.At;have h4:=F8 a.Value;have h5:=Uy h.proof;have:=h.value;simp only [cV];omega
theorem RU (b:Bool):i64 (zn b):=by cases b<;>exact ⟨by decide,by decide⟩
theorem anP {p:List aa}(hp:Pn p){b:List Int}(hb:b.length<=2^43){body:List Int×Int->Option ((List Int×Int)⊕List Int)}(h: ∀k (hk:k<p.length)(l:List Int),l.length<=2^44->body (l,(k:Int))=some (.inl (l++Cc p[k].By,((k+1:Nat):Int))))(he: ∀l:List Int,body (l,(p.length:Int))=some (.inr l)): Loop body (b,0)=some (b++qo (p.map (·.By))):=by
 have hl:=hp.len;refine aK.eq (aK.count (λk=>(b++qo ((p.take k).map (·.By)),(k:Int))) p.length (λ_=>True) (by simp [qo]) trivial (λk hk _=> ?_) (λ_=> ?_))
 ·have h2:=F9 ((p.take k).map (·.By));rw [AT,List.length_take] at h2;rw [h k hk _ (by rw [cV];omega)];refine .mk ⟨?_,trivial⟩;rw [List.take_add_one,List.getElem?_eq_getElem hk,List.map_append,X4,sh];simp [qo]
 ·rw [he,List.take_length];exact .mk rfl
theorem Uz {a:af}(h:VW a):n5 a=some (Po a):=by
 have h1:=nb a.View;have h2:=nb (zn a.Has);have h3:=nb a.At;have h4:=F8 a.Value;have h5:=nb (a.Proof.length:Int);have h6:=F9 (a.Proof.map (·.By));have hv:=h.value;have hl:=h.proof.len;rw [AT] at h6;unfold n5;rw [tV (by simp) h.view,au,show iS a.Has=some (zn a.Has) by unfold iS zn;cases a.Has<;>rfl,au,List.nil_append,tV (by omega) (RU _),au,tV (by simp only [cV];omega) h.at_,au,KJ (by simp only [cV];omega) (by omega),au,tV (by simp only [cV];omega) ⟨by omega,by omega⟩,au];rw [anP h.proof (by simp only [cV];omega) (λk hk l hl=>by
  unfold ov;simp only;rw [if_pos (by omega),bB hk,tV hl (h.proof.xD _ (List.getElem_mem hk)),au,wrap64 (by omega) (by omega)];rfl) (λl=>by
  unfold ov;simp only;rw [if_neg (by omega)]),au,Dh,au]
 unfold Po uP;cases hp:a.Proof with
 |nil=>simp [mB]
 |cons e p=>
  rw [hp] at h6 hl;simp only [mB,if_true];have he:e∈a.Proof:=by rw [hp];simp
  have K7:=h.proof.x e he;rw [hp] at h5;rw [tV (by simp only [cV];omega) (h.proof.v e he),au];have h7:=nb e.View;rw [KJ (by simp only [cV];omega) (by omega),au,au];simp only [sh]
end Dn.S
