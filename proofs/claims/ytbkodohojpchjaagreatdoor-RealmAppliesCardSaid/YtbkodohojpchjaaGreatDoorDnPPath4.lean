import Derived.Test.YtbkodohojpchjaaGreatDoorDnPPath3
/-
  Paths: below, ahead, joined; PathOrder, PathJoins, PathMade. Conditions: none.
-/
set_option linter.unusedVariables false
set_option linter.unusedSimpArgs false
open Go.Op renaming bytesLess→c8
open Bool renaming and_eq_true→sh,or_eq_true→AS,false_eq_true→IN,not_true→aai,true_and→aaj
open List renaming take_append_drop→AI,all_eq_true→By,drop_eq_getElem_cons→IS,length_drop→IT,take_succ_cons→No,flatMap_append→OF,length_cons→aaa,length→aaf
open UInt8 renaming lt_iff_toNat_lt→AT
open List.cons renaming injEq→BY
open Option.some renaming injEq→aaG
open Go Dn
namespace Dn.S
theorem FJ (a:List UInt8):c8 a a=false:=by
 induction a with
 |nil=>rfl
 |cons x a ih=>simp [c8,ih]
theorem ai0 (a b:List UInt8):c8 a b=true\/a=b\/c8 b a=true:=by
 induction a generalizing b with
 |nil=>cases b<;>simp [c8]
 |cons x a ih=>
  cases b with
  |nil=>simp [c8]
  |cons y b=>
   simp only [c8,AS,decide_eq_true_eq,sh,beq_iff_eq,BY];rcases Nat.lt_trichotomy x.toNat y.toNat with h|h|h
   ·exact .inl (.inl (AT.2 h))
   ·have Yj:=UInt8.toNat_inj.1 h;subst Yj;rcases ih b with h|h|h
    ·exact .inl (.inr ⟨rfl,h⟩)
    ·exact .inr (.inl ⟨rfl,h⟩)
    ·exact .inr (.inr (.inr ⟨rfl,h⟩))
   ·exact .inr (.inr (.inl (AT.2 h)))
theorem Rm {a b c:List UInt8}(h1:c8 a b=true)(h2:c8 b c=true):c8 a c=true:=by
 induction a generalizing b c with
 |nil=>
  cases b with
  |nil=>simp [c8] at h1
  |cons y b=>cases c with
   |nil=>simp [c8] at h2
   |cons z c=>rfl
 |cons x a ih=>
  cases b with
  |nil=>simp [c8] at h1
  |cons y b=>
   cases c with
   |nil=>simp [c8] at h2
   |cons z c=>
    simp only [c8,AS,decide_eq_true_eq,sh,beq_iff_eq,AT] at h1 h2⊢;rcases h1 with h1|⟨rfl,h1⟩
    ·rcases h2 with h2|⟨rfl,h2⟩
     ·exact .inl (by omega)
     ·exact .inl h1
    ·rcases h2 with h2|⟨rfl,h2⟩
     ·exact .inl h2
     ·exact .inr ⟨rfl,ih h1 h2⟩
def nH:List (List UInt8)->List (List UInt8)->Bool
 |[],[]=>false
 |[],_::_=>true
 |_::_,[]=>false
 |a::x,b::y=>c8 a b||(decide (a=b)&&nH x y)
theorem BO (a:List (List UInt8)):nH a a=false:=by
 induction a with
 |nil=>rfl
 |cons x a ih=>simp [nH,FJ,ih]
theorem VK (a b:List (List UInt8)):nH a b=true\/a=b\/nH b a=true:=by
 induction a generalizing b with
 |nil=>cases b<;>simp [nH]
 |cons x a ih=>
  cases b with
  |nil=>simp [nH]
  |cons y b=>
   simp only [nH,AS,decide_eq_true_eq,sh,BY];rcases ai0 x y with h|rfl|h
   ·exact .inl (.inl h)
   ·rcases ih b with h|h|h
    ·exact .inl (.inr ⟨rfl,h⟩)
    ·exact .inr (.inl ⟨rfl,h⟩)
    ·exact .inr (.inr (.inr ⟨rfl,h⟩))
   ·exact .inr (.inr (.inl h))
theorem BP {a b c:List (List UInt8)}(h1:nH a b=true)(h2:nH b c=true):nH a c=true:=by
 induction a generalizing b c with
 |nil=>
  cases b with
  |nil=>simp [nH] at h1
  |cons y b=>cases c with
   |nil=>simp [nH] at h2
   |cons z c=>rfl
 |cons x a ih=>
  cases b with
  |nil=>simp [nH] at h1
  |cons y b=>
   cases c with
   |nil=>simp [nH] at h2
   |cons z c=>
    simp only [nH,AS,decide_eq_true_eq,sh] at h1 h2⊢;rcases h1 with h1|⟨rfl,h1⟩
    ·rcases h2 with h2|⟨rfl,h2⟩
     ·exact .inl (Rm h1 h2)
     ·exact .inl h1
    ·rcases h2 with h2|⟨rfl,h2⟩
     ·exact .inl h2
     ·exact .inr ⟨rfl,ih h1 h2⟩
theorem abN {a b:List (List UInt8)}(h:nH a b=true):nH b a=false:=by rw [Bool.eq_false_iff];intro h2;have:=BP h h2;rw [BO] at this;cases this
theorem EK (a x y:List (List UInt8)):nH (a++x) (a++y)=nH x y:=by
 induction a with
 |nil=>rfl
 |cons z a ih=>simp [nH,FJ,ih]
def jL (a b:List (List UInt8)):Bool:=decide (a.length<b.length)&&decide (a=b.take a.length)
theorem abO {a b:List (List UInt8)}(h:jL a b=true):nH a b=true:=by
 unfold jL at h;simp only [sh,decide_eq_true_eq] at h;have hb:b=a++b.drop a.length:=by have:=AI a.length b;rw [<-h.2] at this;exact this.symm
 have hd:b.drop a.length≠[]:=by intro e;have:=congrArg aaf e;rw [IT] at this;simp at this;omega
 rw [hb];have:=EK a [] (b.drop a.length);rw [List.append_nil] at this;rw [this];cases hq:b.drop a.length with
 |nil=>exact absurd hq hd
 |cons=>rfl
theorem ae0 {a b c:List (List UInt8)}(h1:nH a b=true)(h2:nH b c=true)(h3:jL a c=true):jL a b=true:=by
 induction a generalizing b c with
 |nil=>
  cases b with
  |nil=>simp [nH] at h1
  |cons y b=>simp [jL]
 |cons x a ih=>
  cases c with
  |nil=>simp [jL] at h3
  |cons z c=>
   cases b with
   |nil=>simp [nH] at h1
   |cons y b=>
    have h3':x=z/\jL a c=true:=by simp only [jL,aaa,No,BY,sh,decide_eq_true_eq] at h3;exact ⟨h3.2.1,by simp only [jL,sh,decide_eq_true_eq];exact ⟨by omega,h3.2.2⟩⟩
    obtain ⟨rfl,h3'⟩:=h3';simp only [nH,AS,decide_eq_true_eq,sh] at h1 h2;have Yj:x=y/\nH a b=true/\nH b c=true:=by
     rcases h1 with h1|⟨rfl,h1⟩
     ·rcases h2 with h2|⟨rfl,h2⟩
      ·have:=Rm h1 h2;rw [FJ] at this;cases this
      ·rw [FJ] at h1;cases h1
     ·rcases h2 with h2|⟨_,h2⟩
      ·rw [FJ] at h2;cases h2
      ·exact ⟨rfl,h1,h2⟩
    obtain ⟨rfl,g1,g2⟩:=Yj;have:=ih g1 g2 h3';simp only [jL,aaa,No,BY,sh,decide_eq_true_eq] at this⊢;exact ⟨by omega,trivial,this.2⟩
theorem cmp_eq (x y:List UInt8):jn x y=some (if c8 x y then-1 else if x=y then 0 else 1):=by
 unfold jn kM;simp only [decide_true,aai,al,IN,if_false];by_cases h:c8 x y=true
 ·simp [h]
 ·by_cases he:x=y
  ·simp [he,FJ]
  ·simp [h,he]
theorem T3 (a b:List (List UInt8))(hl:a.length<2^60): ∃n,gx a b=some n/\decide (n<0)=nH a b:=by
 obtain ⟨r,e,hr⟩: ∃r,Loop (fj a b) 0=some r/\(match r with| .inl ()=>nH a b=decide (a.length<b.length)| .inr n=>decide (n<0)=nH a b):=by
  refine aM.count (λk=>(k:Int)) a.length (λk=>a.take k=b.take k/\k<=b.length) rfl ⟨rfl,by omega⟩ (λk hk hp=> ?_) (λhp=> ?_)
  ·have dK:nH a b=nH (a.drop k) (b.drop k):=by have:=EK (a.take k) (a.drop k) (b.drop k);rw [AI,hp.1,AI] at this;exact this
   have hda:a.drop k=a[k]::a.drop (k+1):=IS hk;unfold fj;rw [if_pos (by omega),aP hk];by_cases hb:b.length<=k
   ·rw [if_pos (by omega)];refine .mk ?_;show decide ((1:Int)<0)=nH a b;rw [dK,hda,List.drop_eq_nil_of_le hb];rfl
   ·have hb:k<b.length:=by omega
    have hdb:b.drop k=b[k]::b.drop (k+1):=IS hb;rw [if_neg (by omega),aP hb,cmp_eq,al];rw [hda,hdb] at dK;simp only [nH] at dK;by_cases h1:c8 a[k] b[k]=true
    ·simp only [h1,if_true];refine .mk ?_;show decide ((-1:Int)<0)=nH a b;rw [dK,h1];rfl
    ·rw [Bool.not_eq_true] at h1;by_cases h2:a[k]=b[k]
     ·have hc:(if c8 a[k] b[k]=true then (-1:Int) else if a[k]=b[k] then 0 else 1)=0:=by rw [h1,if_neg (by decide),if_pos h2]
      rw [hc,if_neg (by decide)];rw [wrap64 (by omega) (by omega)];refine .mk ⟨by omega,?_,by omega⟩;rw [take_succ hk,take_succ hb,hp.1,h2]
     ·simp only [h1,IN,if_false,h2];refine .mk ?_;show decide ((1:Int)<0)=nH a b;rw [dK,h1];simp [h2]
  ·unfold fj;rw [if_neg (by omega)];refine .mk ?_;show nH a b=decide (a.length<b.length);have:=EK (a.take a.length) (a.drop a.length) (b.drop a.length);rw [AI,hp.1,AI,List.drop_length] at this;rw [this];cases hd:b.drop a.length with
   |nil=>have:=congrArg aaf hd;rw [IT] at this;symm;apply decide_eq_false;simp at this;omega
   |cons x y=>have:=congrArg aaf hd;rw [IT] at this;symm;apply decide_eq_true;simp at this;omega
 unfold gx;rw [e,al];cases r with
 |inl u=>
  dsimp only at hr⊢;rw [hr];by_cases h:a.length<b.length
  ·rw [if_pos (by omega)];exact ⟨_,rfl,by simp [h]⟩
  ·rw [if_neg (by omega)];exact ⟨_,rfl,by simp [h]⟩
 |inr n=>exact ⟨n,rfl,hr⟩
theorem BQ (p:List UInt8): ∃l,iO p=some (l,bn p)/\(bn p=true->l=aE p):=by
 rw [Ka];unfold bn;cases lP p&&decide (p.length<=100) with
 |false=>exact ⟨_,rfl,λh=>by cases h⟩
 |true=>exact ⟨_,rfl,λ_=>rfl⟩
def kD (p q:List UInt8):Bool:=bn p&&(bn q&&nH (aE p) (aE q))
def r5 (p q:List UInt8):Bool:=bn p&&(bn q&&jL (aE p) (aE q))
theorem abP (p q:List UInt8):tq p q=some (kD p q):=by
 unfold tq;obtain ⟨l,e1,h1⟩:=BQ p;obtain ⟨m,e2,h2⟩:=BQ q;rw [e1,al,e2,al,GC];unfold kD;cases hp:bn p with
 |false=>rfl
 |true=>
  cases hq:bn q with
  |false=>rfl
  |true=>rw [h1 hp,h2 hq];obtain ⟨n,e3,h3⟩:=T3 (aE p) (aE q) (by have:=(cQ hp).2.2.1;omega);simp only [if_true,e3,al,h3,aaj]
theorem MW (a b:List (List UInt8))(hl:a.length<2^60):fW a b=some (decide (a=b)):=by
 unfold fW;by_cases he:a.length=b.length
 ·have:decide ((a.length:Int)=(b.length:Int))=true:=decide_eq_true (by omega);rw [this];simp only [aai,IN,if_false];rw [xr he (λk ha hb=>by
   unfold jr;rw [if_pos (by omega),aP ha,aP hb,wrap64 (by omega) (by omega)];by_cases hh:a[k]=b[k]<;>simp [hh]) (by
   unfold jr;rw [if_neg (by omega)]),al]
  by_cases TW:a=b<;>simp [TW]
 ·have:decide ((a.length:Int)=(b.length:Int))=false:=decide_eq_false (by omega);rw [this];have TW:a≠b:=λe=>he (by rw [e]);simp [TW]
theorem Rn (p q:List UInt8):n7 p q=some (r5 p q):=by
 unfold n7;obtain ⟨l,e1,h1⟩:=BQ p;obtain ⟨m,e2,h2⟩:=BQ q;rw [e1,al,e2,al,GC];unfold r5;cases hp:bn p with
 |false=>rfl
 |true=>
  cases hq:bn q with
  |false=>rfl
  |true=>
   rw [h1 hp,h2 hq];simp only [if_true,aaj,jL];by_cases dK:(aE p).length<(aE q).length
   ·rw [if_pos (by omega),if_pos ⟨by decide,by omega,by omega⟩];simp only [Int.toNat_zero,List.drop_zero,Int.toNat_natCast];rw [MW _ _ (by have:=(cQ hp).2.2.1;omega),al];simp [dK]
   ·rw [if_neg (by omega)];simp [dK]
theorem C7 {p:List UInt8}(h:lP p=true):lK (aE p)=p:=by
 by_cases hp:p=[47]
 ·subst hp;rfl
 ·obtain ⟨r,rfl⟩:=Kb h;have hn:aE (47::r)=cy 47 r:=by simp [aE,hp]
  rw [hn,lK,if_neg (s9 r),C6]
theorem FK {p q:List UInt8}(hp:lP p=true)(hq:lP q=true)(h:aE p=aE q):p=q:=by rw [<-C7 hp,<-C7 hq,h]
theorem OI {x:List UInt8}(h:gX x=true):(47:UInt8)∉x/\x≠[]:=by unfold gX at h;simp only [sh,decide_eq_true_eq] at h;refine ⟨λhm=> ?_,h.1⟩;have:=By.1 h.2.2 _ hm;exact absurd this (by decide)
theorem yY {L:List (List UInt8)}(h:L.all gX=true):aE (lK L)=L/\lP (lK L)=true/\(L≠[]->lK L≠[47]):=by
 cases L with
 |nil=>exact ⟨rfl,rfl,λh=>absurd rfl h⟩
 |cons a L=>
  have ha:=OI (By.1 h a (by simp));have hm:lK (a::L)=47::(a++L.flatMap ((47:UInt8)::·)):=by simp [lK]
  have dG:lK (a::L)≠[47]:=by
   rw [hm];intro e;have:a++L.flatMap ((47:UInt8)::·)=[]:=by simpa using e
   exact ha.2 (List.append_eq_nil_iff.1 this).1
  refine ⟨?_,by rw [hm];simp [lP],λ_=>dG⟩;unfold aE;rw [if_neg dG];have:=TY (c:=47) (L:=a::L) (by simp) (λx hx=>(OI (By.1 h x hx)).1);simpa [lK] using this
def EL (p name:List UInt8):List UInt8:=(if p.getLast? =some 47 then p.dropLast else p)++[47]++name
theorem ae1 {p:List UInt8}(h:lP p=true)(hn:(aE p).all gX=true)(name:List UInt8):EL p name=(aE p++[name]).flatMap ((47:UInt8)::·):=by
 by_cases hp:p=[47]
 ·subst hp;simp [EL,aE]
 ·obtain ⟨L,x,e1,e2,e3⟩:=FI h hp;rw [e1] at hn⊢;have hx:=OI (By.1 hn x (by simp));have IG: ¬p.getLast? =some 47:=by rw [e2,List.getLast?_append,List.getLast?_cons,List.getLast?_eq_some_getLast hx.2];simp only [Option.getD_some,Option.some_or,aaG];intro e;exact e3 (by rw [<-e];exact List.getLast_mem _)
  unfold EL;rw [if_neg IG,OF,OF,e2];simp
theorem T4 {p name:List UInt8}(hp:bn p=true)(hx:gX name=true):aE (EL p name)=aE p++[name]/\lP (EL p name)=true/\EL p name=lK (aE p++[name])/\EL p name≠[47]:=by
 obtain ⟨h1,h2,h3,h4⟩:=cQ hp;have lW:(aE p++[name]).all gX=true:=by simp [h4,hx]
 have e:EL p name=lK (aE p++[name]):=by rw [ae1 h2 h4,lK,if_neg (by simp)]
 obtain ⟨g1,g2,g3⟩:=yY lW;rw [e];exact ⟨g1,g2,rfl,g3 (by simp)⟩
end Dn.S
