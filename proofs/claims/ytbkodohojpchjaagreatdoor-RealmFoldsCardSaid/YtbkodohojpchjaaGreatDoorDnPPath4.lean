import Derived.Test.YtbkodohojpchjaaGreatDoorDnPPath3
/-
  Paths: below, ahead, joined; PathOrder, PathJoins, PathMade. Conditions: none.
-/
set_option linter.unusedVariables false
set_option linter.unusedSimpArgs false
open Go.Op renaming bytesLess→c9
open Bool renaming and_eq_true→sh,or_eq_true→AS,false_eq_true→IN,not_true→aas,true_and→aaF
open List renaming take_append_drop→AI,all_eq_true→By,drop_eq_getElem_cons→IS,length_drop→IT,take_succ_cons→No,flatMap_append→OF,length_cons→aaq,length→aar
open UInt8 renaming lt_iff_toNat_lt→AT
open List.cons renaming injEq→BY
open Option.some renaming injEq→aaJ
open Go Dn
namespace Dn.S
theorem FE (a:List UInt8):c9 a a=false:=by
 induction a with
 |nil=>rfl
 |cons x a ih=>simp [c9,ih]
theorem aiP (a b:List UInt8):c9 a b=true\/a=b\/c9 b a=true:=by
 induction a generalizing b with
 |nil=>cases b<;>simp [c9]
 |cons x a ih=>
  cases b with
  |nil=>simp [c9]
  |cons y b=>
   simp only [c9,AS,decide_eq_true_eq,sh,beq_iff_eq,BY];rcases Nat.lt_trichotomy x.toNat y.toNat with h|h|h
   ·exact .inl (.inl (AT.2 h))
   ·have X2:=UInt8.toNat_inj.1 h;subst X2;rcases ih b with h|h|h
    ·exact .inl (.inr ⟨rfl,h⟩)
    ·exact .inr (.inl ⟨rfl,h⟩)
    ·exact .inr (.inr (.inr ⟨rfl,h⟩))
   ·exact .inr (.inr (.inl (AT.2 h)))
theorem Rh {a b c:List UInt8}(h1:c9 a b=true)(h2:c9 b c=true):c9 a c=true:=by
 induction a generalizing b c with
 |nil=>
  cases b with
  |nil=>simp [c9] at h1
  |cons y b=>cases c with
   |nil=>simp [c9] at h2
   |cons z c=>rfl
 |cons x a ih=>
  cases b with
  |nil=>simp [c9] at h1
  |cons y b=>
   cases c with
   |nil=>simp [c9] at h2
   |cons z c=>
    simp only [c9,AS,decide_eq_true_eq,sh,beq_iff_eq,AT] at h1 h2⊢;rcases h1 with h1|⟨rfl,h1⟩
    ·rcases h2 with h2|⟨rfl,h2⟩
     ·exact .inl (by omega)
     ·exact .inl h1
    ·rcases h2 with h2|⟨rfl,h2⟩
     ·exact .inl h2
     ·exact .inr ⟨rfl,ih h1 h2⟩
def oc:List (List UInt8)->List (List UInt8)->Bool
 |[],[]=>false
 |[],_::_=>true
 |_::_,[]=>false
 |a::x,b::y=>c9 a b||(decide (a=b)&&oc x y)
theorem Bw (a:List (List UInt8)):oc a a=false:=by
 induction a with
 |nil=>rfl
 |cons x a ih=>simp [oc,FE,ih]
theorem Vw (a b:List (List UInt8)):oc a b=true\/a=b\/oc b a=true:=by
 induction a generalizing b with
 |nil=>cases b<;>simp [oc]
 |cons x a ih=>
  cases b with
  |nil=>simp [oc]
  |cons y b=>
   simp only [oc,AS,decide_eq_true_eq,sh,BY];rcases aiP x y with h|rfl|h
   ·exact .inl (.inl h)
   ·rcases ih b with h|h|h
    ·exact .inl (.inr ⟨rfl,h⟩)
    ·exact .inr (.inl ⟨rfl,h⟩)
    ·exact .inr (.inr (.inr ⟨rfl,h⟩))
   ·exact .inr (.inr (.inl h))
theorem FF {a b c:List (List UInt8)}(h1:oc a b=true)(h2:oc b c=true):oc a c=true:=by
 induction a generalizing b c with
 |nil=>
  cases b with
  |nil=>simp [oc] at h1
  |cons y b=>cases c with
   |nil=>simp [oc] at h2
   |cons z c=>rfl
 |cons x a ih=>
  cases b with
  |nil=>simp [oc] at h1
  |cons y b=>
   cases c with
   |nil=>simp [oc] at h2
   |cons z c=>
    simp only [oc,AS,decide_eq_true_eq,sh] at h1 h2⊢;rcases h1 with h1|⟨rfl,h1⟩
    ·rcases h2 with h2|⟨rfl,h2⟩
     ·exact .inl (Rh h1 h2)
     ·exact .inl h1
    ·rcases h2 with h2|⟨rfl,h2⟩
     ·exact .inl h2
     ·exact .inr ⟨rfl,ih h1 h2⟩
theorem abx {a b:List (List UInt8)}(h:oc a b=true):oc b a=false:=by rw [Bool.eq_false_iff];intro h2;have:=FF h h2;rw [Bw] at this;cases this
theorem EB (a x y:List (List UInt8)):oc (a++x) (a++y)=oc x y:=by
 induction a with
 |nil=>rfl
 |cons z a ih=>simp [oc,FE,ih]
def jM (a b:List (List UInt8)):Bool:=decide (a.length<b.length)&&decide (a=b.take a.length)
theorem aby {a b:List (List UInt8)}(h:jM a b=true):oc a b=true:=by
 unfold jM at h;simp only [sh,decide_eq_true_eq] at h;have hb:b=a++b.drop a.length:=by have:=AI a.length b;rw [<-h.2] at this;exact this.symm
 have hd:b.drop a.length≠[]:=by intro e;have:=congrArg aar e;rw [IT] at this;simp at this;omega
 rw [hb];have:=EB a [] (b.drop a.length);rw [List.append_nil] at this;rw [this];cases hq:b.drop a.length with
 |nil=>exact absurd hq hd
 |cons=>rfl
theorem aeP {a b c:List (List UInt8)}(h1:oc a b=true)(h2:oc b c=true)(h3:jM a c=true):jM a b=true:=by
 induction a generalizing b c with
 |nil=>
  cases b with
  |nil=>simp [oc] at h1
  |cons y b=>simp [jM]
 |cons x a ih=>
  cases c with
  |nil=>simp [jM] at h3
  |cons z c=>
   cases b with
   |nil=>simp [oc] at h1
   |cons y b=>
    have h3':x=z/\jM a c=true:=by simp only [jM,aaq,No,BY,sh,decide_eq_true_eq] at h3;exact ⟨h3.2.1,by simp only [jM,sh,decide_eq_true_eq];exact ⟨by omega,h3.2.2⟩⟩
    obtain ⟨rfl,h3'⟩:=h3';simp only [oc,AS,decide_eq_true_eq,sh] at h1 h2;have X2:x=y/\oc a b=true/\oc b c=true:=by
     rcases h1 with h1|⟨rfl,h1⟩
     ·rcases h2 with h2|⟨rfl,h2⟩
      ·have:=Rh h1 h2;rw [FE] at this;cases this
      ·rw [FE] at h1;cases h1
     ·rcases h2 with h2|⟨_,h2⟩
      ·rw [FE] at h2;cases h2
      ·exact ⟨rfl,h1,h2⟩
    obtain ⟨rfl,g1,g2⟩:=X2;have:=ih g1 g2 h3';simp only [jM,aaq,No,BY,sh,decide_eq_true_eq] at this⊢;exact ⟨by omega,trivial,this.2⟩
theorem cmp_eq (x y:List UInt8):jo x y=some (if c9 x y then-1 else if x=y then 0 else 1):=by
 unfold jo kV;simp only [decide_true,aas,av,IN,if_false];by_cases h:c9 x y=true
 ·simp [h]
 ·by_cases he:x=y
  ·simp [he,FE]
  ·simp [h,he]
theorem TE (a b:List (List UInt8))(hl:a.length<2^60): ∃n,gw a b=some n/\decide (n<0)=oc a b:=by
 obtain ⟨r,e,hr⟩: ∃r,Loop (fq a b) 0=some r/\(match r with| .inl ()=>oc a b=decide (a.length<b.length)| .inr n=>decide (n<0)=oc a b):=by
  refine aO.count (λk=>(k:Int)) a.length (λk=>a.take k=b.take k/\k<=b.length) rfl ⟨rfl,by omega⟩ (λk hk hp=> ?_) (λhp=> ?_)
  ·have dY:oc a b=oc (a.drop k) (b.drop k):=by have:=EB (a.take k) (a.drop k) (b.drop k);rw [AI,hp.1,AI] at this;exact this
   have hda:a.drop k=a[k]::a.drop (k+1):=IS hk;unfold fq;rw [if_pos (by omega),ba hk];by_cases hb:b.length<=k
   ·rw [if_pos (by omega)];refine .mk ?_;show decide ((1:Int)<0)=oc a b;rw [dY,hda,List.drop_eq_nil_of_le hb];rfl
   ·have hb:k<b.length:=by omega
    have hdb:b.drop k=b[k]::b.drop (k+1):=IS hb;rw [if_neg (by omega),ba hb,cmp_eq,av];rw [hda,hdb] at dY;simp only [oc] at dY;by_cases h1:c9 a[k] b[k]=true
    ·simp only [h1,if_true];refine .mk ?_;show decide ((-1:Int)<0)=oc a b;rw [dY,h1];rfl
    ·rw [Bool.not_eq_true] at h1;by_cases h2:a[k]=b[k]
     ·have hc:(if c9 a[k] b[k]=true then (-1:Int) else if a[k]=b[k] then 0 else 1)=0:=by rw [h1,if_neg (by decide),if_pos h2]
      rw [hc,if_neg (by decide)];rw [wrap64 (by omega) (by omega)];refine .mk ⟨by omega,?_,by omega⟩;rw [take_succ hk,take_succ hb,hp.1,h2]
     ·simp only [h1,IN,if_false,h2];refine .mk ?_;show decide ((1:Int)<0)=oc a b;rw [dY,h1];simp [h2]
  ·unfold fq;rw [if_neg (by omega)];refine .mk ?_;show oc a b=decide (a.length<b.length);have:=EB (a.take a.length) (a.drop a.length) (b.drop a.length);rw [AI,hp.1,AI,List.drop_length] at this;rw [this];cases hd:b.drop a.length with
   |nil=>have:=congrArg aar hd;rw [IT] at this;symm;apply decide_eq_false;simp at this;omega
   |cons x y=>have:=congrArg aar hd;rw [IT] at this;symm;apply decide_eq_true;simp at this;omega
 unfold gw;rw [e,av];cases r with
 |inl u=>
  dsimp only at hr⊢;rw [hr];by_cases h:a.length<b.length
  ·rw [if_pos (by omega)];exact ⟨_,rfl,by simp [h]⟩
  ·rw [if_neg (by omega)];exact ⟨_,rfl,by simp [h]⟩
 |inr n=>exact ⟨n,rfl,hr⟩
theorem Bx (p:List UInt8): ∃l,iN p=some (l,bA p)/\(bA p=true->l=aH p):=by
 rw [Kf];unfold bA;cases lQ p&&decide (p.length<=100) with
 |false=>exact ⟨_,rfl,λh=>by cases h⟩
 |true=>exact ⟨_,rfl,λ_=>rfl⟩
def pJ (p q:List UInt8):Bool:=bA p&&(bA q&&oc (aH p) (aH q))
def sa (p q:List UInt8):Bool:=bA p&&(bA q&&jM (aH p) (aH q))
theorem abz (p q:List UInt8):tq p q=some (pJ p q):=by
 unfold tq;obtain ⟨l,e1,h1⟩:=Bx p;obtain ⟨m,e2,h2⟩:=Bx q;rw [e1,av,e2,av,Gz];unfold pJ;cases hp:bA p with
 |false=>rfl
 |true=>
  cases hq:bA q with
  |false=>rfl
  |true=>rw [h1 hp,h2 hq];obtain ⟨n,e3,h3⟩:=TE (aH p) (aH q) (by have:=(cR hp).2.2.1;omega);simp only [if_true,e3,av,h3,aaF]
theorem MK (a b:List (List UInt8))(hl:a.length<2^60):fU a b=some (decide (a=b)):=by
 unfold fU;by_cases he:a.length=b.length
 ·have:decide ((a.length:Int)=(b.length:Int))=true:=decide_eq_true (by omega);rw [this];simp only [aas,IN,if_false];rw [xh he (λk ha hb=>by
   unfold jt;rw [if_pos (by omega),ba ha,ba hb,wrap64 (by omega) (by omega)];by_cases hh:a[k]=b[k]<;>simp [hh]) (by
   unfold jt;rw [if_neg (by omega)]),av]
  by_cases Tx:a=b<;>simp [Tx]
 ·have:decide ((a.length:Int)=(b.length:Int))=false:=decide_eq_false (by omega);rw [this];have Tx:a≠b:=λe=>he (by rw [e]);simp [Tx]
theorem Ri (p q:List UInt8):nZ p q=some (sa p q):=by
 unfold nZ;obtain ⟨l,e1,h1⟩:=Bx p;obtain ⟨m,e2,h2⟩:=Bx q;rw [e1,av,e2,av,Gz];unfold sa;cases hp:bA p with
 |false=>rfl
 |true=>
  cases hq:bA q with
  |false=>rfl
  |true=>
   rw [h1 hp,h2 hq];simp only [if_true,aaF,jM];by_cases dY:(aH p).length<(aH q).length
   ·rw [if_pos (by omega),if_pos ⟨by decide,by omega,by omega⟩];simp only [Int.toNat_zero,List.drop_zero,Int.toNat_natCast];rw [MK _ _ (by have:=(cR hp).2.2.1;omega),av];simp [dY]
   ·rw [if_neg (by omega)];simp [dY]
theorem CQ {p:List UInt8}(h:lQ p=true):lM (aH p)=p:=by
 by_cases hp:p=[47]
 ·subst hp;rfl
 ·obtain ⟨r,rfl⟩:=Kg h;have hn:aH (47::r)=ct 47 r:=by simp [aH,hp]
  rw [hn,lM,if_neg (s9 r),CP]
theorem FG {p q:List UInt8}(hp:lQ p=true)(hq:lQ q=true)(h:aH p=aH q):p=q:=by rw [<-CQ hp,<-CQ hq,h]
theorem OD {x:List UInt8}(h:gV x=true):(47:UInt8)∉x/\x≠[]:=by unfold gV at h;simp only [sh,decide_eq_true_eq] at h;refine ⟨λhm=> ?_,h.1⟩;have:=By.1 h.2.2 _ hm;exact absurd this (by decide)
theorem yM {L:List (List UInt8)}(h:L.all gV=true):aH (lM L)=L/\lQ (lM L)=true/\(L≠[]->lM L≠[47]):=by
 cases L with
 |nil=>exact ⟨rfl,rfl,λh=>absurd rfl h⟩
 |cons a L=>
  have ha:=OD (By.1 h a (by simp));have hm:lM (a::L)=47::(a++L.flatMap ((47:UInt8)::·)):=by simp [lM]
  have dG:lM (a::L)≠[47]:=by
   rw [hm];intro e;have:a++L.flatMap ((47:UInt8)::·)=[]:=by simpa using e
   exact ha.2 (List.append_eq_nil_iff.1 this).1
  refine ⟨?_,by rw [hm];simp [lQ],λ_=>dG⟩;unfold aH;rw [if_neg dG];have:=Tz (c:=47) (L:=a::L) (by simp) (λx hx=>(OD (By.1 h x hx)).1);simpa [lM] using this
def EC (p name:List UInt8):List UInt8:=(if p.getLast? =some 47 then p.dropLast else p)++[47]++name
theorem aeQ {p:List UInt8}(h:lQ p=true)(hn:(aH p).all gV=true)(name:List UInt8):EC p name=(aH p++[name]).flatMap ((47:UInt8)::·):=by
 by_cases hp:p=[47]
 ·subst hp;simp [EC,aH]
 ·obtain ⟨L,x,e1,e2,e3⟩:=FD h hp;rw [e1] at hn⊢;have hx:=OD (By.1 hn x (by simp));have IK: ¬p.getLast? =some 47:=by rw [e2,List.getLast?_append,List.getLast?_cons,List.getLast?_eq_some_getLast hx.2];simp only [Option.getD_some,Option.some_or,aaJ];intro e;exact e3 (by rw [<-e];exact List.getLast_mem _)
  unfold EC;rw [if_neg IK,OF,OF,e2];simp
theorem TF {p name:List UInt8}(hp:bA p=true)(hx:gV name=true):aH (EC p name)=aH p++[name]/\lQ (EC p name)=true/\EC p name=lM (aH p++[name])/\EC p name≠[47]:=by
 obtain ⟨h1,h2,h3,h4⟩:=cR hp;have nm:(aH p++[name]).all gV=true:=by simp [h4,hx]
 have e:EC p name=lM (aH p++[name]):=by rw [aeQ h2 h4,lM,if_neg (by simp)]
 obtain ⟨g1,g2,g3⟩:=yM nm;rw [e];exact ⟨g1,g2,rfl,g3 (by simp)⟩
end Dn.S
