import Derived.Test.YtjblhgpbkfmkoaaDnPAcc2
import Derived.Test.YtjblhgpbkfmkoaaDnPOctet3
/-
  Acceptors as bytes: what lasts. Conditions: none.
-/
open Go Dn
set_option linter.unusedVariables false
set_option linter.unusedSimpArgs false
namespace Dn.S
def jR (l:List Int):List Int:=(l.map sO).flatten
@[simp] theorem um (n : Int) (l : List Int) : jR (n :: l) = sO n ++ jR l := rfl
theorem LQ (l m:List Int):jR (l++m)=jR l++jR m:=by unfold jR;simp
theorem gx (n:Int):(sO n).length≤9:=by unfold sO;rw [AZ];have:=sE (zz n);omega
theorem wZ (s:List UInt8):(tq s).length≤9+s.length:=by unfold tq;rw [List.length_append,AZ,rK];have:=sE s.length;omega
theorem xa (l:List Int):(jR l).length≤9 *l.length:=by
 induction l with
 |nil=>simp [jR]
 |cons n l ih=>rw [um,List.length_append,List.length_cons];have:=gx n;omega
theorem LR (l:List Int):ma (jR l):=by
 induction l with
 |nil=>intro x hx;simp [jR] at hx
 |cons n l ih=>exact (pa n).app ih
theorem iZ {b:List Int} {n:Int} {r:List Int} (h:fC b=some (n,r)):r.length≤b.length:=by
 unfold fC at h
 cases ht:jQ b with
 |none=>rw [ht] at h;cases h
 |some p=>
  obtain ⟨u,r'⟩:=p
  rw [ht] at h
  injection h with h
  injection h with h1 h2
  subst h2
  exact ul ht
theorem IL {b:List Int} {most:Nat} {s:List UInt8} {r:List Int} (h:nP b most=some (s,r)):r.length≤b.length:=by
 unfold nP at h
 cases ht:jQ b with
 |none=>rw [ht] at h;cases h
 |some p=>
  obtain ⟨u,r'⟩:=p
  rw [ht] at h
  simp only at h
  split at h
  ·cases h
  ·injection h with h
   injection h with h1 h2
   subst h2
   have:=ul ht
   rw [List.length_drop];omega
def mW:Nat→List Int→Option (List Int×List Int)
 |0,b=>some ([],b)
 |k+1,b=>match fC b with
  |none=>none
  |some (n,r)=>match mW k r with
   |none=>none
   |some (l,r')=>some (n::l,r')
theorem IM: ∀(l:List Int),(∀n∈l,i64 n)→ ∀r,mW l.length (jR l++r)=some (l,r):=by
 intro l
 induction l with
 |nil=>intro _ r;rfl
 |cons n l ih=>
  intro h r
  simp only [List.length_cons,mW,um,List.append_assoc]
  rw [mb (h n (by simp))]
  simp only
  rw [ih (fun m hm=>h m (by simp [hm])) r]
theorem xO: ∀(k:Nat) {b:List Int},ma b→ ∀{l r:List Int},mW k b=some (l,r)→b=jR l++r∧l.length=k∧(∀n∈l,i64 n)∧ma r∧r.length≤b.length:=by
 intro k
 induction k with
 |zero=>
  intro b hb l r h
  injection h with h
  injection h with h1 h2
  subst h1;subst h2
  exact ⟨rfl,rfl,by simp,hb,Nat.le_refl _⟩
 |succ k ih=>
  intro b hb l r h
  simp only [mW] at h
  cases ht:fC b with
  |none=>rw [ht] at h;cases h
  |some p=>
   obtain ⟨n,r1⟩:=p
   rw [ht] at h
   simp only at h
   obtain ⟨e1,hn,sW⟩:=fj hb ht
   cases oh:mW k r1 with
   |none=>rw [oh] at h;cases h
   |some p2=>
    obtain ⟨l2,r2⟩:=p2
    rw [oh] at h
    injection h with h
    injection h with h1 h2
    subst h1;subst h2
    obtain ⟨e2,hl,hi,hr,hle⟩:=ih sW oh
    have:=iZ ht
    exact ⟨by rw [um,List.append_assoc,←e2];exact e1,by rw [List.length_cons,hl],fun m hm=>by
     rcases List.mem_cons.1 hm with rfl|hm
     ·exact hn
     ·exact hi m hm,hr,by omega⟩
def mX (p:List aa):List Int:=sO (p.length:Int)++jR (p.map (·.By))++match p with|[]=>[]|e::_=>sO e.View++tq e.Value
structure EE (p:List aa):Prop where
 len:p.length≤100
 one: ∀e∈p,∀f∈p,e.View=f.View∧e.Value=f.Value
 Wo: ∀e∈p,i64 e.By
 v: ∀e∈p,i64 e.View
 x: ∀e∈p,e.Value.length≤6000
theorem EE.nil:EE []:=⟨by simp,by simp,by simp,by simp,by simp⟩
def PQ (l:List Int) (v:Int) (x:List UInt8):List aa:=l.map fun y=>⟨y,v,x⟩
theorem EE.mk' {p:List aa} {e:aa} (h:EE p) (he:e∈p):p=PQ (p.map (·.By)) e.View e.Value:=by
 unfold PQ
 rw [List.map_map]
 conv=>lhs;rw [←List.map_id p]
 apply List.map_congr_left
 intro f hf
 obtain ⟨h1,h2⟩:=h.one f hf e he
 obtain ⟨a,b,c⟩:=f
 simp only at h1 h2
 simp only [id,Function.comp,h1,h2]
def vQ (b:List Int):Option (List aa×List Int):=match fC b with
 |none=>none
 |some (n,r)=>if n<0∨100<n then none else if n=0 then some ([],r) else match mW n.toNat r with
  |none=>none
  |some (l,r1)=>match fC r1 with
   |none=>none
   |some (v,r2)=>match nP r2 6000 with
    |none=>none
    |some (x,r3)=>some (PQ l v x,r3)
theorem LS {p:List aa} (h:EE p) (r:List Int):vQ (mX p++r)=some (p,r):=by
 have hl:=h.len
 unfold vQ mX
 rw [List.append_assoc,List.append_assoc,mb ⟨by omega,by omega⟩]
 simp only
 rw [if_neg (by omega)]
 cases p with
 |nil=>simp [jR]
 |cons e p=>
  have hm:=h.mk' (e:=e) (by simp)
  rw [if_neg (by simp only [List.length_cons];omega),show Int.toNat (((e::p).length:Nat):Int)=((e::p).map (·.By)).length by simp,IM _ (fun n hn=>by
   obtain ⟨f,hf,rfl⟩:=List.mem_map.1 hn
   exact h.Wo f hf)]
  simp only
  rw [List.append_assoc,mb (h.v e (by simp))]
  simp only
  rw [Dg (h.x e (by simp)) (by decide)]
  simp only
  rw [←hm]
theorem IP {b:List Int} (hb:ma b) {p:List aa} {r:List Int} (h:vQ b=some (p,r)):b=mX p++r∧EE p∧ma r:=by
 unfold vQ at h
 cases ht:fC b with
 |none=>rw [ht] at h;cases h
 |some q=>
  obtain ⟨n,r0⟩:=q
  obtain ⟨e1,hn,Mg⟩:=fj hb ht
  rw [ht] at h
  simp only at h
  split at h
  ·cases h
  ·rename_i hc
   split at h
   ·rename_i L2
    injection h with h
    injection h with h1 h2
    subst h1;subst h2;subst L2
    exact ⟨by rw [e1];unfold mX;simp [jR],.nil,Mg⟩
   ·rename_i L2
    cases Bc:mW n.toNat r0 with
    |none=>rw [Bc] at h;cases h
    |some q1=>
     obtain ⟨l,r1⟩:=q1
     obtain ⟨e2,hl,hi,sW,_⟩:=xO _ Mg Bc
     rw [Bc] at h
     simp only at h
     cases oh:fC r1 with
     |none=>rw [oh] at h;cases h
     |some q2=>
      obtain ⟨v,r2⟩:=q2
      obtain ⟨e3,hv,A9⟩:=fj sW oh
      rw [oh] at h
      simp only at h
      cases Mf:nP r2 6000 with
      |none=>rw [Mf] at h;cases h
      |some q3=>
       obtain ⟨x,r3⟩:=q3
       obtain ⟨e4,hx,Sl⟩:=A0 A9 Mf
       rw [Mf] at h
       injection h with h
       injection h with h1 h2
       subst h1;subst h2
       have xU: ∀f∈PQ l v x,∃y∈l,f=⟨y,v,x⟩:=fun f hf=>by
        obtain ⟨y,hy,rfl⟩:=List.mem_map.1 hf
        exact ⟨y,hy,rfl⟩
       refine ⟨?_,⟨by simp only [PQ,List.length_map];omega,fun f hf g hg=> ?_,fun f hf=> ?_,fun f hf=> ?_,fun f hf=> ?_⟩,Sl⟩
       ·have Nh:(PQ l v x).map (·.By)=l:=by
         unfold PQ
         rw [List.map_map]
         conv=>rhs;rw [←List.map_id l]
         rfl
        have hlen:(PQ l v x).length=l.length:=by unfold PQ;simp
        unfold mX
        rw [Nh,hlen,hl,Int.toNat_of_nonneg (by omega),e1,e2,e3,e4]
        obtain ⟨y,l',rfl⟩: ∃y l',l=y::l':=by
         cases l with
         |nil=>simp at hl;omega
         |cons y l'=>exact ⟨y,l',rfl⟩
        simp [PQ]
       ·obtain ⟨y,_,rfl⟩:=xU f hf
        obtain ⟨z,_,rfl⟩:=xU g hg
        exact ⟨rfl,rfl⟩
       ·obtain ⟨y,hy,rfl⟩:=xU f hf;exact hi y hy
       ·obtain ⟨y,hy,rfl⟩:=xU f hf;exact hv
       ·obtain ⟨y,hy,rfl⟩:=xU f hf;exact hx
def qz (b:Bool):Int:=if b then 1 else 0
def EF (a:ae):List Int:=sO a.View++(sO (qz a.Has)++(sO a.At++(tq a.Value++mX a.Proof)))
structure J9 (a:ae):Prop where
 view:i64 a.View
 at_:i64 a.At
 value:a.Value.length≤6000
 proof:EE a.Proof
theorem IQ (p:List aa):ma (mX p):=by
 unfold mX
 refine ((pa _).app (LR _)).app ?_
 cases p with
 |nil=>intro x hx;simp at hx
 |cons e p=>exact (pa _).app (Df _)
theorem PR (a:ae):ma (EF a):=(pa _).app ((pa _).app ((pa _).app ((Df _).app (IQ _))))
theorem IR {p:List aa} (h:EE p):(mX p).length≤8000:=by
 unfold mX
 have h1:=gx (p.length:Int)
 have h2:=xa (p.map (·.By))
 have h3:=h.len
 rw [List.length_map] at h2
 rw [List.length_append,List.length_append]
 cases p with
 |nil=>simp only [List.length_nil] at *;omega
 |cons e p=>
  have h4:=gx e.View
  have h5:=wZ e.Value
  have h6:=h.x e (by simp)
  simp only [List.length_append];omega
theorem PS {a:ae} (h:J9 a):(EF a).length≤20000:=by
 unfold EF
 have h1:=gx a.View
 have h2:=gx (qz a.Has)
 have h3:=gx a.At
 have h4:=wZ a.Value
 have h5:=IR h.proof
 have:=h.value
 simp only [List.length_append];omega
theorem GP (b:Bool):i64 (qz b):=by cases b<;>exact ⟨by decide,by decide⟩
theorem Zd {p:List aa} (hp:EE p) {b:List Int} (hb:b.length≤2^43) {body:List Int×Int→Option ((List Int×Int)⊕List Int)}
 (h: ∀k (hk:k<p.length) (l:List Int),l.length≤2^44→body (l,(k:Int))=some (.inl (l++sO p[k].By,((k+1:Nat):Int)))) (he: ∀l:List Int,body (l,(p.length:Int))=some (.inr l)):
 Loop body (b,0)=some (b++jR (p.map (·.By))):=by
 have hl:=hp.len
 refine aO.eq (aO.count (fun k=>(b++jR ((p.take k).map (·.By)),(k:Int))) p.length (fun _=>True) (by simp [jR]) trivial (fun k hk _=> ?_) (fun _=> ?_))
 ·have h2:=xa ((p.take k).map (·.By))
  rw [List.length_map,List.length_take] at h2
  rw [h k hk _ (by rw [List.length_append];omega)]
  refine .mk ⟨?_,trivial⟩
  rw [List.take_add_one,List.getElem?_eq_getElem hk,List.map_append,LQ,List.append_assoc]
  simp [jR]
 ·rw [he,List.take_length]
  exact .mk rfl
theorem IU {a:ae} (h:J9 a):iI a=some (EF a):=by
 have h1:=gx a.View
 have h2:=gx (qz a.Has)
 have h3:=gx a.At
 have h4:=wZ a.Value
 have h5:=gx (a.Proof.length:Int)
 have h6:=xa (a.Proof.map (·.By))
 have hv:=h.value
 have hl:=h.proof.len
 rw [List.length_map] at h6
 unfold iI
 rw [mf (by simp) h.view,aq,show dG a.Has=some (qz a.Has) by unfold dG qz;cases a.Has<;>rfl,aq,List.nil_append,mf (by omega) (GP _),aq,
  mf (by simp only [List.length_append];omega) h.at_,aq,A2 (by simp only [List.length_append];omega) (by omega),aq,mf (by simp only [List.length_append];omega) ⟨by omega,by omega⟩,aq]
 rw [Zd h.proof (by simp only [List.length_append];omega) (fun k hk l hl=>by
  unfold iR
  simp only
  rw [if_pos (by omega),bO hk,mf hl (h.proof.Wo _ (List.getElem_mem hk)),aq,wrap64 (by omega) (by omega)];rfl) (fun l=>by
  unfold iR
  simp only
  rw [if_neg (by omega)]),aq,ql,aq]
 unfold EF mX
 cases hp:a.Proof with
 |nil=>simp [xM]
 |cons e p=>
  rw [hp] at h6 hl
  simp only [xM,if_true]
  have he:e∈a.Proof:=by rw [hp];simp
  have yN:=h.proof.x e he
  rw [hp] at h5
  rw [mf (by simp only [List.length_append];omega) (h.proof.v e he),aq]
  have h7:=gx e.View
  rw [A2 (by simp only [List.length_append];omega) (by omega),aq,aq]
  simp only [List.append_assoc]
end Dn.S
