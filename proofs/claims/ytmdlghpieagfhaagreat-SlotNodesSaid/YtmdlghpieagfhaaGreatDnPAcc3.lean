import Derived.Test.YtmdlghpieagfhaaGreatDnPAcc2
import Derived.Test.YtmdlghpieagfhaaGreatDnPOctet3
/-
  Acceptors as bytes: what lasts. Conditions: none.
-/
set_option linter.unusedVariables false
set_option linter.unusedSimpArgs false
open List renaming length_append→fj,append_assoc→sh,length_cons→AI,length_map→AT,getElem_cons_zero→BY,getElem_mem→IN,nil_append→IS,map_map→IT,mem_map→No,map_id→OF
open Go Dn
namespace Dn.S
def q0 (l:List Int):List Int:=(l.map AD).flatten
@[simp] theorem Ey (n : Int)(l : List Int) : q0 (n :: l) = AD n ++ q0 l := rfl
theorem aar (l m:List Int):q0 (l++m)=q0 l++q0 m:=by unfold q0;simp
theorem iG (n:Int):(AD n).length<=9:=by unfold AD;rw [GI];have:=su (zz n);omega
theorem CE (s:List UInt8):(BM s).length<=9+s.length:=by unfold BM;rw [fj,GI,yK];have:=su s.length;omega
theorem CF (l:List Int):(q0 l).length<=9 *l.length:=by
 induction l with
 |nil=>simp [q0]
 |cons n l ih=>rw [Ey,fj,AI];have:=iG n;omega
theorem aas (l:List Int):rl (q0 l):=by
 induction l with
 |nil=>intro x hx;simp [q0] at hx
 |cons n l ih=>exact (yL n).app ih
theorem jY {b:List Int}{n:Int}{r:List Int}(h:gf b=some (n,r)):r.length<=b.length:=by
 unfold gf at h;cases ht:nm b with
 |none=>rw [ht] at h;cases h
 |some p=>obtain ⟨u,r'⟩:=p;rw [ht] at h;injection h with h;injection h with h1 h2;subst h2;exact zZ ht
theorem MN {b:List Int}{most:Nat}{s:List UInt8}{r:List Int}(h:vG b most=some (s,r)):r.length<=b.length:=by
 unfold vG at h;cases ht:nm b with
 |none=>rw [ht] at h;cases h
 |some p=>
  obtain ⟨u,r'⟩:=p;rw [ht] at h;simp only at h;split at h
  ·cases h
  ·injection h with h;injection h with h1 h2;subst h2;have:=zZ ht;rw [List.length_drop];omega
def ja:Nat->List Int->Option (List Int×List Int)
 |0,b=>some ([],b)
 |k+1,b=>match gf b with
  |none=>none
  |some (n,r)=>match ja k r with
   |none=>none
   |some (l,r')=>some (n::l,r')
theorem W0: ∀(l:List Int),(∀n∈l,i64 n)-> ∀r,ja l.length (q0 l++r)=some (l,r):=by
 intro l;induction l with
 |nil=>intro _ r;rfl
 |cons n l ih=>intro h r;simp only [AI,ja,Ey,sh];rw [uD (h n (by simp))];simp only;rw [ih (λm hm=>h m (by simp [hm])) r]
theorem xb: ∀(k:Nat) {b:List Int},rl b-> ∀{l r:List Int},ja k b=some (l,r)->b=q0 l++r/\l.length=k/\(∀n∈l,i64 n)/\rl r/\r.length<=b.length:=by
 intro k;induction k with
 |zero=>intro b hb l r h;injection h with h;injection h with h1 h2;subst h1;subst h2;exact ⟨rfl,rfl,by simp,hb,Nat.le_refl _⟩
 |succ k ih=>
  intro b hb l r h;simp only [ja] at h;cases ht:gf b with
  |none=>rw [ht] at h;cases h
  |some p=>
   obtain ⟨n,r1⟩:=p;rw [ht] at h;simp only at h;obtain ⟨e1,hn,AW⟩:=iB hb ht;cases uP:ja k r1 with
   |none=>rw [uP] at h;cases h
   |some p2=>
    obtain ⟨l2,r2⟩:=p2;rw [uP] at h;injection h with h;injection h with h1 h2;subst h1;subst h2;obtain ⟨e2,hl,hi,hr,hle⟩:=ih AW uP;have:=jY ht;exact ⟨by rw [Ey,sh,<-e2];exact e1,by rw [AI,hl],λm hm=>by
     rcases List.mem_cons.1 hm with rfl|hm
     ·exact hn
     ·exact hi m hm,hr,by omega⟩
def tm (p:List aa):List Int:=AD (p.length:Int)++q0 (p.map (·.By))++match p with|[]=>[]|e::_=>AD e.View++BM e.Value
structure RY (p:List aa):Prop where
 len:p.length<=100
 one: ∀e∈p,∀f∈p,e.View=f.View/\e.Value=f.Value
 jg: ∀e∈p,i64 e.By
 v: ∀e∈p,i64 e.View
 x: ∀e∈p,e.Value.length<=6000
theorem RY.nil:RY []:=⟨by simp,by simp,by simp,by simp,by simp⟩
def U1 (l:List Int)(v:Int)(x:List UInt8):List aa:=l.map λy=>⟨y,v,x⟩
theorem RY.mk' {p:List aa}{e:aa}(h:RY p)(he:e∈p):p=U1 (p.map (·.By)) e.View e.Value:=by
 unfold U1;rw [IT];conv=>lhs;rw [<-OF p]
 apply List.map_congr_left;intro f hf;obtain ⟨h1,h2⟩:=h.one f hf e he;obtain ⟨a,b,c⟩:=f;simp only at h1 h2;simp only [id,Function.comp,h1,h2]
def yM (b:List Int):Option (List aa×List Int):=match gf b with
 |none=>none
 |some (n,r)=>if n<0\/100<n then none else if n=0 then some ([],r) else match ja n.toNat r with
  |none=>none
  |some (l,r1)=>match gf r1 with
   |none=>none
   |some (v,r2)=>match vG r2 6000 with
    |none=>none
    |some (x,r3)=>some (U1 l v x,r3)
theorem aat {p:List aa}(h:RY p)(r:List Int):yM (tm p++r)=some (p,r):=by
 have hl:=h.len;unfold yM tm;rw [sh,sh,uD ⟨by omega,by omega⟩];simp only;rw [if_neg (by omega)];cases p with
 |nil=>simp [q0]
 |cons e p=>have hm:=h.mk' (e:=e) (by simp);rw [if_neg (by simp only [AI];omega),show Int.toNat (((e::p).length:Nat):Int)=((e::p).map (·.By)).length by simp,W0 _ (λn hn=>by obtain ⟨f,hf,rfl⟩:=No.1 hn;exact h.jg f hf)];simp only;rw [sh,uD (h.v e (by simp))];simp only;rw [P0 (h.x e (by simp)) (by decide)];simp only;rw [<-hm]
theorem W1 {b:List Int}(hb:rl b){p:List aa}{r:List Int}(h:yM b=some (p,r)):b=tm p++r/\RY p/\rl r:=by
 unfold yM at h;cases ht:gf b with
 |none=>rw [ht] at h;cases h
 |some q=>
  obtain ⟨n,r0⟩:=q;obtain ⟨e1,hn,hr0⟩:=iB hb ht;rw [ht] at h;simp only at h;split at h
  ·cases h
  ·rename_i hc;split at h
   ·rename_i hn0;injection h with h;injection h with h1 h2;subst h1;subst h2;subst hn0;exact ⟨by rw [e1];unfold tm;simp [q0],.nil,hr0⟩
   ·rename_i hn0;cases H9:ja n.toNat r0 with
    |none=>rw [H9] at h;cases h
    |some q1=>
     obtain ⟨l,r1⟩:=q1;obtain ⟨e2,hl,hi,AW,_⟩:=xb _ hr0 H9;rw [H9] at h;simp only at h;cases uP:gf r1 with
     |none=>rw [uP] at h;cases h
     |some q2=>
      obtain ⟨v,r2⟩:=q2;obtain ⟨e3,hv,Ju⟩:=iB AW uP;rw [uP] at h;simp only at h;cases ht3:vG r2 6000 with
      |none=>rw [ht3] at h;cases h
      |some q3=>
       obtain ⟨x,r3⟩:=q3;obtain ⟨e4,hx,hr3⟩:=Ex Ju ht3;rw [ht3] at h;injection h with h;injection h with h1 h2;subst h1;subst h2;have Fb: ∀f∈U1 l v x,∃y∈l,f=⟨y,v,x⟩:=λf hf=>by obtain ⟨y,hy,rfl⟩:=No.1 hf;exact ⟨y,hy,rfl⟩
       refine ⟨?_,⟨by simp only [U1,AT];omega,λf hf g hg=> ?_,λf hf=> ?_,λf hf=> ?_,λf hf=> ?_⟩,hr3⟩
       ·have hby:(U1 l v x).map (·.By)=l:=by
         unfold U1;rw [IT];conv=>rhs;rw [<-OF l]
         rfl
        have hlen:(U1 l v x).length=l.length:=by unfold U1;simp
        unfold tm;rw [hby,hlen,hl,Int.toNat_of_nonneg (by omega),e1,e2,e3,e4];obtain ⟨y,l',rfl⟩: ∃y l',l=y::l':=by
         cases l with
         |nil=>simp at hl;omega
         |cons y l'=>exact ⟨y,l',rfl⟩
        simp [U1]
       ·obtain ⟨y,_,rfl⟩:=Fb f hf;obtain ⟨z,_,rfl⟩:=Fb g hg;exact ⟨rfl,rfl⟩
       ·obtain ⟨y,hy,rfl⟩:=Fb f hf;exact hi y hy
       ·obtain ⟨y,hy,rfl⟩:=Fb f hf;exact hv
       ·obtain ⟨y,hy,rfl⟩:=Fb f hf;exact hx
def vH (b:Bool):Int:=if b then 1 else 0
def MO (a:aj):List Int:=AD a.View++(AD (vH a.Has)++(AD a.At++(BM a.Value++tm a.Proof)))
structure U2 (a:aj):Prop where
 view:i64 a.View
 at_:i64 a.At
 value:a.Value.length<=6000
 proof:RY a.Proof
theorem W3 (p:List aa):rl (tm p):=by
 unfold tm;refine ((yL _).app (aas _)).app ?_;cases p with
 |nil=>intro x hx;simp at hx
 |cons e p=>exact (yL _).app (PZ _)
theorem U3 (a:aj):rl (MO a):=(yL _).app ((yL _).app ((yL _).app ((PZ _).app (W3 _))))
theorem W4 {p:List aa}(h:RY p):(tm p).length<=8000:=by
 unfold tm;have h1:=iG (p.length:Int);have h2:=CF (p.map (·.By));have h3:=h.len;rw [AT] at h2;rw [fj,fj];cases p with
 |nil=>simp only [List.length_nil] at *;omega
 |cons e p=>have h4:=iG e.View;have h5:=CE e.Value;have h6:=h.x e (by simp);simp only [fj];omega
theorem U4 {a:aj}(h:U2 a):(MO a).length<=20000:=by unfold MO;have h1:=iG a.View;have h2:=iG (vH a.Has);have h3:=iG a.At;have h4:=CE a.Value;have h5:=W4 h.proof;have:=h.value;simp only [fj];omega
theorem MP (b:Bool):i64 (vH b):=by cases b<;>exact ⟨by decide,by decide⟩
theorem aja {p:List aa}(hp:RY p){b:List Int}(hb:b.length<=2^43){body:List Int×Int->Option ((List Int×Int)⊕List Int)}(h: ∀k (hk:k<p.length)(l:List Int),l.length<=2^44->body (l,(k:Int))=some (.inl (l++AD p[k].By,((k+1:Nat):Int))))(he: ∀l:List Int,body (l,(p.length:Int))=some (.inr l)): Loop body (b,0)=some (b++q0 (p.map (·.By))):=by
 have hl:=hp.len;refine bD.eq (bD.count (λk=>(b++q0 ((p.take k).map (·.By)),(k:Int))) p.length (λ_=>True) (by simp [q0]) trivial (λk hk _=> ?_) (λ_=> ?_))
 ·have h2:=CF ((p.take k).map (·.By));rw [AT,List.length_take] at h2;rw [h k hk _ (by rw [fj];omega)];refine .mk ⟨?_,trivial⟩;rw [List.take_add_one,List.getElem?_eq_getElem hk,List.map_append,aar,sh];simp [q0]
 ·rw [he,List.take_length];exact .mk rfl
theorem W5 {a:aj}(h:U2 a):ot a=some (MO a):=by
 have h1:=iG a.View;have h2:=iG (vH a.Has);have h3:=iG a.At;have h4:=CE a.Value;have h5:=iG (a.Proof.length:Int);have h6:=CF (a.Proof.map (·.By));have hv:=h.value;have hl:=h.proof.len;rw [AT] at h6;unfold ot;rw [uF (by simp) h.view,ar,show iO a.Has=some (vH a.Has) by unfold iO vH;cases a.Has<;>rfl,ar,IS,uF (by omega) (MP _),ar,uF (by simp only [fj];omega) h.at_,ar,MI (by simp only [fj];omega) (by omega),ar,uF (by simp only [fj];omega) ⟨by omega,by omega⟩,ar];rw [aja h.proof (by simp only [fj];omega) (λk hk l hl=>by
  unfold oR;simp only;rw [if_pos (by omega),bP hk,uF hl (h.proof.jg _ (IN hk)),ar,wrap64 (by omega) (by omega)];rfl) (λl=>by
  unfold oR;simp only;rw [if_neg (by omega)]),ar,zX,ar]
 unfold MO tm;cases hp:a.Proof with
 |nil=>simp [PV]
 |cons e p=>
  rw [hp] at h6 hl;simp only [PV,if_true];have he:e∈a.Proof:=by rw [hp];simp
  have Nd:=h.proof.x e he;rw [hp] at h5;rw [uF (by simp only [fj];omega) (h.proof.v e he),ar];have h7:=iG e.View;rw [MI (by simp only [fj];omega) (by omega),ar,ar];simp only [sh]
theorem W6 {a:aj}(h:U2 a):Bg (sr a)=some (MO a):=by
 have h1:=iG a.View;have h2:=iG (vH a.Has);have h3:=iG a.At;have h4:=CE a.Value;have h5:=iG (a.Proof.length:Int);have h6:=CF (a.Proof.map (·.By));have hv:=h.value;have hl:=h.proof.len;rw [AT] at h6;unfold Bg;have c1:(sr a).Has=a.Has:=rfl;have c2:(sr a).View=a.View:=rfl;have c3:(sr a).At=a.At:=rfl;have c4:(sr a).Value=a.Value:=rfl;have c5:(sr a).Proof=a.Proof:=rfl;rw [c1,c2,c3,c4,c5];rw [show (if a.Has then some 1 else some 0:Option Int)=some (vH a.Has) by unfold vH;cases a.Has<;>rfl,ar,uG (by simp) h.view,ar,IS,uG (by omega) (MP _),ar,uG (by simp only [fj];omega) h.at_,ar,MJ (by simp only [fj];omega) (by omega),ar,uG (by simp only [fj];omega) ⟨by omega,by omega⟩,ar];rw [aja h.proof (by simp only [fj];omega) (λk hk l hl=>by
  unfold zu;rw [c5];simp only;rw [if_pos (by omega),bP hk,uG hl (h.proof.jg _ (IN hk)),ar,wrap64 (by omega) (by omega)];rfl) (λl=>by
  unfold zu;rw [c5];simp only;rw [if_neg (by omega)]),ar]
 unfold MO tm;cases hp:a.Proof with
 |nil=>simp
 |cons e p=>
  rw [hp] at h6 hl;have he:e∈a.Proof:=by rw [hp];simp
  have Nd:=h.proof.x e he;rw [hp] at h5;rw [if_pos (by simp only [AI];omega),iK (by simp),BY];rw [uG (by simp only [fj];omega) (h.proof.v e he),ar];have h7:=iG e.View;rw [iK (by simp),BY,MJ (by simp only [fj];omega) (by omega),ar,ar];simp only [sh]
end Dn.S
