import Derived.Test.YtjblhgpbkfmkoaaDnPAcc2
import Derived.Test.YtjblhgpbkfmkoaaDnPOctet3
/-
  Acceptors as bytes: what lasts. Conditions: none.
-/
open Go Dn
set_option linter.unusedVariables false
set_option linter.unusedSimpArgs false
namespace Dn.S
def iK (l:List Int):List Int:=(l.map pa).flatten
@[simp] theorem sf (n : Int) (l : List Int) : iK (n :: l) = pa n ++ iK l := rfl
theorem Iy (l m:List Int):iK (l++m)=iK l++iK m:=by unfold iK;simp
theorem da (n:Int):(pa n).length≤9:=by unfold pa;rw [tD];have:=jA (zz n);omega
theorem qJ (s:List UInt8):(qf s).length≤9+s.length:=by unfold qf;rw [List.length_append,tD,nG];have:=jA s.length;omega
theorem qK (l:List Int):(iK l).length≤9 *l.length:=by
 induction l with
 |nil=>simp [iK]
 |cons n l ih=>rw [sf,List.length_append,List.length_cons];have:=da n;omega
theorem Iz (l:List Int):iM (iK l):=by
 induction l with
 |nil=>intro x hx;simp [iK] at hx
 |cons n l ih=>exact (nH n).app ih
theorem dK {b:List Int} {n:Int} {r:List Int} (h:cu b=some (n,r)):r.length≤b.length:=by
 unfold cu at h
 cases ht:fB b with
 |none=>rw [ht] at h;cases h
 |some p=>
  obtain ⟨u,r'⟩:=p
  rw [ht] at h
  injection h with h
  injection h with h1 h2
  subst h2
  exact oM ht
theorem yv {b:List Int} {most:Nat} {s:List UInt8} {r:List Int} (h:jX b most=some (s,r)):r.length≤b.length:=by
 unfold jX at h
 cases ht:fB b with
 |none=>rw [ht] at h;cases h
 |some p=>
  obtain ⟨u,r'⟩:=p
  rw [ht] at h
  simp only at h
  split at h
  ·cases h
  ·injection h with h
   injection h with h1 h2
   subst h2
   have:=oM ht
   rw [List.length_drop];omega
def dm:Nat→List Int→Option (List Int×List Int)
 |0,b=>some ([],b)
 |k+1,b=>match cu b with
  |none=>none
  |some (n,r)=>match dm k r with
   |none=>none
   |some (l,r')=>some (n::l,r')
theorem FP: ∀(l:List Int),(∀n∈l,i64 n)→ ∀r,dm l.length (iK l++r)=some (l,r):=by
 intro l
 induction l with
 |nil=>intro _ r;rfl
 |cons n l ih=>
  intro h r
  simp only [List.length_cons,dm,sf,List.append_assoc]
  rw [kv (h n (by simp))]
  simp only
  rw [ih (fun m hm=>h m (by simp [hm])) r]
theorem ml: ∀(k:Nat) {b:List Int},iM b→ ∀{l r:List Int},dm k b=some (l,r)→b=iK l++r∧l.length=k∧(∀n∈l,i64 n)∧iM r∧r.length≤b.length:=by
 intro k
 induction k with
 |zero=>
  intro b hb l r h
  injection h with h
  injection h with h1 h2
  subst h1;subst h2
  exact ⟨rfl,rfl,by simp,hb,Nat.le_refl _⟩
 |succ k ih=>
  intro b hb l r h
  simp only [dm] at h
  cases ht:cu b with
  |none=>rw [ht] at h;cases h
  |some p=>
   obtain ⟨n,r1⟩:=p
   rw [ht] at h
   simp only at h
   obtain ⟨e1,hn,pz⟩:=cj hb ht
   cases kQ:dm k r1 with
   |none=>rw [kQ] at h;cases h
   |some p2=>
    obtain ⟨l2,r2⟩:=p2
    rw [kQ] at h
    injection h with h
    injection h with h1 h2
    subst h1;subst h2
    obtain ⟨e2,hl,hi,hr,hle⟩:=ih pz kQ
    have:=dK ht
    exact ⟨by rw [sf,List.append_assoc,←e2];exact e1,by rw [List.length_cons,hl],fun m hm=>by
     rcases List.mem_cons.1 hm with rfl|hm
     ·exact hn
     ·exact hi m hm,hr,by omega⟩
def jT (p:List ab):List Int:=pa (p.length:Int)++iK (p.map (·.By))++match p with|[]=>[]|e::_=>pa e.View++qf e.Value
structure B2 (p:List ab):Prop where
 len:p.length≤100
 one: ∀e∈p,∀f∈p,e.View=f.View∧e.Value=f.Value
 Q1: ∀e∈p,i64 e.By
 v: ∀e∈p,i64 e.View
 x: ∀e∈p,e.Value.length≤6000
theorem B2.nil:B2 []:=⟨by simp,by simp,by simp,by simp,by simp⟩
def DS (l:List Int) (v:Int) (x:List UInt8):List ab:=l.map fun y=>⟨y,v,x⟩
theorem B2.mk' {p:List ab} {e:ab} (h:B2 p) (he:e∈p):p=DS (p.map (·.By)) e.View e.Value:=by
 unfold DS
 rw [List.map_map]
 conv=>lhs;rw [←List.map_id p]
 apply List.map_congr_left
 intro f hf
 obtain ⟨h1,h2⟩:=h.one f hf e he
 obtain ⟨a,b,c⟩:=f
 simp only at h1 h2
 simp only [id,Function.comp,h1,h2]
def mn (b:List Int):Option (List ab×List Int):=match cu b with
 |none=>none
 |some (n,r)=>if n<0∨100<n then none else if n=0 then some ([],r) else match dm n.toNat r with
  |none=>none
  |some (l,r1)=>match cu r1 with
   |none=>none
   |some (v,r2)=>match jX r2 6000 with
    |none=>none
    |some (x,r3)=>some (DS l v x,r3)
theorem IA {p:List ab} (h:B2 p) (r:List Int):mn (jT p++r)=some (p,r):=by
 have hl:=h.len
 unfold mn jT
 rw [List.append_assoc,List.append_assoc,kv ⟨by omega,by omega⟩]
 simp only
 rw [if_neg (by omega)]
 cases p with
 |nil=>simp [iK]
 |cons e p=>
  have hm:=h.mk' (e:=e) (by simp)
  rw [if_neg (by simp only [List.length_cons];omega),show Int.toNat (((e::p).length:Nat):Int)=((e::p).map (·.By)).length by simp,FP _ (fun n hn=>by
   obtain ⟨f,hf,rfl⟩:=List.mem_map.1 hn
   exact h.Q1 f hf)]
  simp only
  rw [List.append_assoc,kv (h.v e (by simp))]
  simp only
  rw [AK (h.x e (by simp)) (by decide)]
  simp only
  rw [←hm]
theorem yw {b:List Int} (hb:iM b) {p:List ab} {r:List Int} (h:mn b=some (p,r)):b=jT p++r∧B2 p∧iM r:=by
 unfold mn at h
 cases ht:cu b with
 |none=>rw [ht] at h;cases h
 |some q=>
  obtain ⟨n,r0⟩:=q
  obtain ⟨e1,hn,IX⟩:=cj hb ht
  rw [ht] at h
  simp only at h
  split at h
  ·cases h
  ·rename_i hc
   split at h
   ·rename_i IJ
    injection h with h
    injection h with h1 h2
    subst h1;subst h2;subst IJ
    exact ⟨by rw [e1];unfold jT;simp [iK],.nil,IX⟩
   ·rename_i IJ
    cases uZ:dm n.toNat r0 with
    |none=>rw [uZ] at h;cases h
    |some q1=>
     obtain ⟨l,r1⟩:=q1
     obtain ⟨e2,hl,hi,pz,_⟩:=ml _ IX uZ
     rw [uZ] at h
     simp only at h
     cases kQ:cu r1 with
     |none=>rw [kQ] at h;cases h
     |some q2=>
      obtain ⟨v,r2⟩:=q2
      obtain ⟨e3,hv,yD⟩:=cj pz kQ
      rw [kQ] at h
      simp only at h
      cases IW:jX r2 6000 with
      |none=>rw [IW] at h;cases h
      |some q3=>
       obtain ⟨x,r3⟩:=q3
       obtain ⟨e4,hx,Hu⟩:=oL yD IW
       rw [IW] at h
       injection h with h
       injection h with h1 h2
       subst h1;subst h2
       have Fh: ∀f∈DS l v x,∃y∈l,f=⟨y,v,x⟩:=fun f hf=>by
        obtain ⟨y,hy,rfl⟩:=List.mem_map.1 hf
        exact ⟨y,hy,rfl⟩
       refine ⟨?_,⟨by simp only [DS,List.length_map];omega,fun f hf g hg=> ?_,fun f hf=> ?_,fun f hf=> ?_,fun f hf=> ?_⟩,Hu⟩
       ·have Om:(DS l v x).map (·.By)=l:=by
         unfold DS
         rw [List.map_map]
         conv=>rhs;rw [←List.map_id l]
         rfl
        have hlen:(DS l v x).length=l.length:=by unfold DS;simp
        unfold jT
        rw [Om,hlen,hl,Int.toNat_of_nonneg (by omega),e1,e2,e3,e4]
        obtain ⟨y,l',rfl⟩: ∃y l',l=y::l':=by
         cases l with
         |nil=>simp at hl;omega
         |cons y l'=>exact ⟨y,l',rfl⟩
        simp [DS]
       ·obtain ⟨y,_,rfl⟩:=Fh f hf
        obtain ⟨z,_,rfl⟩:=Fh g hg
        exact ⟨rfl,rfl⟩
       ·obtain ⟨y,hy,rfl⟩:=Fh f hf;exact hi y hy
       ·obtain ⟨y,hy,rfl⟩:=Fh f hf;exact hv
       ·obtain ⟨y,hy,rfl⟩:=Fh f hf;exact hx
def jM (b:Bool):Int:=if b then 1 else 0
def uG (a:af):List Int:=pa a.View++(pa (jM a.Has)++(pa a.At++(qf a.Value++jT a.Proof)))
structure AN (a:af):Prop where
 view:i64 a.View
 at_:i64 a.At
 value:a.Value.length≤6000
 proof:B2 a.Proof
theorem FQ (p:List ab):iM (jT p):=by
 unfold jT
 refine ((nH _).app (Iz _)).app ?_
 cases p with
 |nil=>intro x hx;simp at hx
 |cons e p=>exact (nH _).app (AJ _)
theorem DT (a:af):iM (uG a):=(nH _).app ((nH _).app ((nH _).app ((AJ _).app (FQ _))))
theorem FR {p:List ab} (h:B2 p):(jT p).length≤8000:=by
 unfold jT
 have h1:=da (p.length:Int)
 have h2:=qK (p.map (·.By))
 have h3:=h.len
 rw [List.length_map] at h2
 rw [List.length_append,List.length_append]
 cases p with
 |nil=>simp only [List.length_nil] at *;omega
 |cons e p=>
  have h4:=da e.View
  have h5:=qJ e.Value
  have h6:=h.x e (by simp)
  simp only [List.length_append];omega
theorem DU {a:af} (h:AN a):(uG a).length≤20000:=by
 unfold uG
 have h1:=da a.View
 have h2:=da (jM a.Has)
 have h3:=da a.At
 have h4:=qJ a.Value
 have h5:=FR h.proof
 have:=h.value
 simp only [List.length_append];omega
theorem yx (b:Bool):i64 (jM b):=by cases b<;>exact ⟨by decide,by decide⟩
theorem O5 {p:List ab} (hp:B2 p) {b:List Int} (hb:b.length≤2^43) {body:List Int×Int→Option ((List Int×Int)⊕List Int)}
 (h: ∀k (hk:k<p.length) (l:List Int),l.length≤2^44→body (l,(k:Int))=some (.inl (l++pa p[k].By,((k+1:Nat):Int)))) (he: ∀l:List Int,body (l,(p.length:Int))=some (.inr l)):
 Loop body (b,0)=some (b++iK (p.map (·.By))):=by
 have hl:=hp.len
 refine bE.eq (bE.count (fun k=>(b++iK ((p.take k).map (·.By)),(k:Int))) p.length (fun _=>True) (by simp [iK]) trivial (fun k hk _=> ?_) (fun _=> ?_))
 ·have h2:=qK ((p.take k).map (·.By))
  rw [List.length_map,List.length_take] at h2
  rw [h k hk _ (by rw [List.length_append];omega)]
  refine .mk ⟨?_,trivial⟩
  rw [List.take_add_one,List.getElem?_eq_getElem hk,List.map_append,Iy,List.append_assoc]
  simp [iK]
 ·rw [he,List.take_length]
  exact .mk rfl
theorem yy {a:af} (h:AN a):dJ a=some (uG a):=by
 have h1:=da a.View
 have h2:=da (jM a.Has)
 have h3:=da a.At
 have h4:=qJ a.Value
 have h5:=da (a.Proof.length:Int)
 have h6:=qK (a.Proof.map (·.By))
 have hv:=h.value
 have hl:=h.proof.len
 rw [List.length_map] at h6
 unfold dJ
 rw [kz (by simp) h.view,aA,show dg a.Has=some (jM a.Has) by unfold dg jM;cases a.Has<;>rfl,aA,List.nil_append,kz (by omega) (yx _),aA,
  kz (by simp only [List.length_append];omega) h.at_,aA,yp (by simp only [List.length_append];omega) (by omega),aA,kz (by simp only [List.length_append];omega) ⟨by omega,by omega⟩,aA]
 rw [O5 h.proof (by simp only [List.length_append];omega) (fun k hk l hl=>by
  unfold gl
  simp only
  rw [if_pos (by omega),cG hk,kz hl (h.proof.Q1 _ (List.getElem_mem hk)),aA,wrap64 (by omega) (by omega)];rfl) (fun l=>by
  unfold gl
  simp only
  rw [if_neg (by omega)]),aA,FL,aA]
 unfold uG jT
 cases hp:a.Proof with
 |nil=>simp [O3]
 |cons e p=>
  rw [hp] at h6 hl
  simp only [O3,if_true]
  have he:e∈a.Proof:=by rw [hp];simp
  have vQ:=h.proof.x e he
  rw [hp] at h5
  rw [kz (by simp only [List.length_append];omega) (h.proof.v e he),aA]
  have h7:=da e.View
  rw [yp (by simp only [List.length_append];omega) (by omega),aA,aA]
  simp only [List.append_assoc]
theorem FU {a:af} (h:AN a):pL (mM a)=some (uG a):=by
 have h1:=da a.View
 have h2:=da (jM a.Has)
 have h3:=da a.At
 have h4:=qJ a.Value
 have h5:=da (a.Proof.length:Int)
 have h6:=qK (a.Proof.map (·.By))
 have hv:=h.value
 have hl:=h.proof.len
 rw [List.length_map] at h6
 unfold pL
 have c1:(mM a).Has=a.Has:=rfl
 have c2:(mM a).View=a.View:=rfl
 have c3:(mM a).At=a.At:=rfl
 have c4:(mM a).Value=a.Value:=rfl
 have c5:(mM a).Proof=a.Proof:=rfl
 rw [c1,c2,c3,c4,c5]
 rw [show (if a.Has then some 1 else some 0:Option Int)=some (jM a.Has) by unfold jM;cases a.Has<;>rfl,aA,kA (by simp) h.view,aA,List.nil_append,kA (by omega) (yx _),aA,
  kA (by simp only [List.length_append];omega) h.at_,aA,yq (by simp only [List.length_append];omega) (by omega),aA,kA (by simp only [List.length_append];omega) ⟨by omega,by omega⟩,aA]
 rw [O5 h.proof (by simp only [List.length_append];omega) (fun k hk l hl=>by
  unfold oo
  rw [c5]
  simp only
  rw [if_pos (by omega),cG hk,kA hl (h.proof.Q1 _ (List.getElem_mem hk)),aA,wrap64 (by omega) (by omega)];rfl) (fun l=>by
  unfold oo
  rw [c5]
  simp only
  rw [if_neg (by omega)]),aA]
 unfold uG jT
 cases hp:a.Proof with
 |nil=>simp
 |cons e p=>
  rw [hp] at h6 hl
  have he:e∈a.Proof:=by rw [hp];simp
  have vQ:=h.proof.x e he
  rw [hp] at h5
  rw [if_pos (by simp only [List.length_cons];omega),gn (by simp),List.getElem_cons_zero]
  rw [kA (by simp only [List.length_append];omega) (h.proof.v e he),aA]
  have h7:=da e.View
  rw [gn (by simp),List.getElem_cons_zero,yq (by simp only [List.length_append];omega) (by omega),aA,aA]
  simp only [List.append_assoc]
end Dn.S
