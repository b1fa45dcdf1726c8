import Derived.Test.YtbkodohojpchjaaGreatDoorDnPPath3
/- Paths: below, ahead, joined; PathOrder, PathJoins, PathMade. Conditions: none. -/
set_option linter.unusedVariables false
set_option linter.unusedSimpArgs false
open Go.Op renaming bytesLess→bN
open Bool renaming and_eq_true→sh,or_eq_true→AS,false_eq_true→BY,not_true→aa6,true_and→abK
open List renaming take_append_drop→AI,drop_eq_getElem_cons→IN,length_drop→IT,all_eq_true→No,take_succ_cons→OF,length_cons→aaG,length→aaW
open UInt8 renaming lt_iff_toNat_lt→AT
open List.cons renaming injEq→By
open Go Dn
namespace Dn.S
theorem ET (a:List UInt8):bN a a=false:=by
 induction a with
 |nil=>rfl
 |cons x a ih=>simp [bN,ih]
theorem ahT (a b:List UInt8):bN a b=true\/a=b\/bN b a=true:=by
 induction a generalizing b with
 |nil=>cases b<;>simp [bN]
 |cons x a ih=>
  cases b with
  |nil=>simp [bN]
  |cons y b=>
   simp only [bN,AS,decide_eq_true_eq,sh,beq_iff_eq,By];rcases Nat.lt_trichotomy x.toNat y.toNat with h|h|h
   ·exact .inl (.inl (AT.2 h))
   ·have Q7:=UInt8.toNat_inj.1 h;subst Q7;rcases ih b with h|h|h
    ·exact .inl (.inr ⟨rfl,h⟩)
    ·exact .inr (.inl ⟨rfl,h⟩)
    ·exact .inr (.inr (.inr ⟨rfl,h⟩))
   ·exact .inr (.inr (.inl (AT.2 h)))
theorem QC {a b c:List UInt8}(h1:bN a b=true)(h2:bN b c=true):bN a c=true:=by
 induction a generalizing b c with
 |nil=>
  cases b with
  |nil=>simp [bN] at h1
  |cons y b=>cases c with
   |nil=>simp [bN] at h2
   |cons z c=>rfl
 |cons x a ih=>
  cases b with
  |nil=>simp [bN] at h1
  |cons y b=>
   cases c with
   |nil=>simp [bN] at h2
   |cons z c=>
    simp only [bN,AS,decide_eq_true_eq,sh,beq_iff_eq,AT] at h1 h2⊢;rcases h1 with h1|⟨rfl,h1⟩
    ·rcases h2 with h2|⟨rfl,h2⟩
     ·exact .inl (by omega)
     ·exact .inl h1
    ·rcases h2 with h2|⟨rfl,h2⟩
     ·exact .inl h2
     ·exact .inr ⟨rfl,ih h1 h2⟩
def rG:List (List UInt8)->List (List UInt8)->Bool
 |[],[]=>false
 |[],_::_=>true
 |_::_,[]=>false
 |a::x,b::y=>bN a b||(decide (a=b)&&rG x y)
theorem DP (a:List (List UInt8)):rG a a=false:=by
 induction a with
 |nil=>rfl
 |cons x a ih=>simp [rG,ET,ih]
theorem aeo (a b:List (List UInt8)):rG a b=true\/a=b\/rG b a=true:=by
 induction a generalizing b with
 |nil=>cases b<;>simp [rG]
 |cons x a ih=>
  cases b with
  |nil=>simp [rG]
  |cons y b=>
   simp only [rG,AS,decide_eq_true_eq,sh,By];rcases ahT x y with h|rfl|h
   ·exact .inl (.inl h)
   ·rcases ih b with h|h|h
    ·exact .inl (.inr ⟨rfl,h⟩)
    ·exact .inr (.inl ⟨rfl,h⟩)
    ·exact .inr (.inr (.inr ⟨rfl,h⟩))
   ·exact .inr (.inr (.inl h))
theorem MI {a b c:List (List UInt8)}(h1:rG a b=true)(h2:rG b c=true):rG a c=true:=by
 induction a generalizing b c with
 |nil=>
  cases b with
  |nil=>simp [rG] at h1
  |cons y b=>cases c with
   |nil=>simp [rG] at h2
   |cons z c=>rfl
 |cons x a ih=>
  cases b with
  |nil=>simp [rG] at h1
  |cons y b=>
   cases c with
   |nil=>simp [rG] at h2
   |cons z c=>
    simp only [rG,AS,decide_eq_true_eq,sh] at h1 h2⊢;rcases h1 with h1|⟨rfl,h1⟩
    ·rcases h2 with h2|⟨rfl,h2⟩
     ·exact .inl (QC h1 h2)
     ·exact .inl h1
    ·rcases h2 with h2|⟨rfl,h2⟩
     ·exact .inl h2
     ·exact .inr ⟨rfl,ih h1 h2⟩
theorem Ov (a x y:List (List UInt8)):rG (a++x) (a++y)=rG x y:=by
 induction a with
 |nil=>rfl
 |cons z a ih=>simp [rG,ET,ih]
def kf (a b:List (List UInt8)):Bool:=decide (a.length<b.length)&&decide (a=b.take a.length)
theorem aa0 {a b:List (List UInt8)}(h:kf a b=true):rG a b=true:=by
 unfold kf at h;simp only [sh,decide_eq_true_eq] at h;have hb:b=a++b.drop a.length:=by have:=AI a.length b;rw [<-h.2] at this;exact this.symm
 have hd:b.drop a.length≠[]:=by intro e;have:=congrArg aaW e;rw [IT] at this;simp at this;omega
 rw [hb];have:=Ov a [] (b.drop a.length);rw [List.append_nil] at this;rw [this];cases hq:b.drop a.length with
 |nil=>exact absurd hq hd
 |cons=>rfl
theorem aep {a b c:List (List UInt8)}(h1:rG a b=true)(h2:rG b c=true)(h3:kf a c=true):kf a b=true:=by
 induction a generalizing b c with
 |nil=>
  cases b with
  |nil=>simp [rG] at h1
  |cons y b=>simp [kf]
 |cons x a ih=>
  cases c with
  |nil=>simp [kf] at h3
  |cons z c=>
   cases b with
   |nil=>simp [rG] at h1
   |cons y b=>
    have h3':x=z/\kf a c=true:=by simp only [kf,aaG,OF,By,sh,decide_eq_true_eq] at h3;exact ⟨h3.2.1,by simp only [kf,sh,decide_eq_true_eq];exact ⟨by omega,h3.2.2⟩⟩
    obtain ⟨rfl,h3'⟩:=h3';simp only [rG,AS,decide_eq_true_eq,sh] at h1 h2;have Q7:x=y/\rG a b=true/\rG b c=true:=by
     rcases h1 with h1|⟨rfl,h1⟩
     ·rcases h2 with h2|⟨rfl,h2⟩
      ·have:=QC h1 h2;rw [ET] at this;cases this
      ·rw [ET] at h1;cases h1
     ·rcases h2 with h2|⟨_,h2⟩
      ·rw [ET] at h2;cases h2
      ·exact ⟨rfl,h1,h2⟩
    obtain ⟨rfl,g1,g2⟩:=Q7;have:=ih g1 g2 h3';simp only [kf,aaG,OF,By,sh,decide_eq_true_eq] at this⊢;exact ⟨by omega,trivial,this.2⟩
theorem cmp_eq (x y:List UInt8):jh x y=some (if bN x y then-1 else if x=y then 0 else 1):=by
 unfold jh kQ;simp only [decide_true,aa6,az,BY,if_false];by_cases h:bN x y=true
 ·simp [h]
 ·by_cases he:x=y
  ·simp [he,ET]
  ·simp [h,he]
theorem SR (a b:List (List UInt8))(hl:a.length<2^60): ∃n,fK a b=some n/\decide (n<0)=rG a b:=by
 obtain ⟨r,e,hr⟩: ∃r,Loop (eM a b) 0=some r/\(match r with| .inl ()=>rG a b=decide (a.length<b.length)| .inr n=>decide (n<0)=rG a b):=by
  refine bG.count (λk=>(k:Int)) a.length (λk=>a.take k=b.take k/\k<=b.length) rfl ⟨rfl,by omega⟩ (λk hk hp=> ?_) (λhp=> ?_)
  ·have cI:rG a b=rG (a.drop k) (b.drop k):=by have:=Ov (a.take k) (a.drop k) (b.drop k);rw [AI,hp.1,AI] at this;exact this
   have hda:a.drop k=a[k]::a.drop (k+1):=IN hk;unfold eM;rw [if_pos (by omega),b7 hk];by_cases hb:b.length<=k
   ·rw [if_pos (by omega)];refine .mk ?_;show decide ((1:Int)<0)=rG a b;rw [cI,hda,List.drop_eq_nil_of_le hb];rfl
   ·have hb:k<b.length:=by omega
    have hdb:b.drop k=b[k]::b.drop (k+1):=IN hb;rw [if_neg (by omega),b7 hb,cmp_eq,az];rw [hda,hdb] at cI;simp only [rG] at cI;by_cases h1:bN a[k] b[k]=true
    ·simp only [h1,if_true];refine .mk ?_;show decide ((-1:Int)<0)=rG a b;rw [cI,h1];rfl
    ·rw [Bool.not_eq_true] at h1;by_cases h2:a[k]=b[k]
     ·have hc:(if bN a[k] b[k]=true then (-1:Int) else if a[k]=b[k] then 0 else 1)=0:=by rw [h1,if_neg (by decide),if_pos h2]
      rw [hc,if_neg (by decide)];rw [wrap64 (by omega) (by omega)];refine .mk ⟨by omega,?_,by omega⟩;rw [take_succ hk,take_succ hb,hp.1,h2]
     ·simp only [h1,BY,if_false,h2];refine .mk ?_;show decide ((1:Int)<0)=rG a b;rw [cI,h1];simp [h2]
  ·unfold eM;rw [if_neg (by omega)];refine .mk ?_;show rG a b=decide (a.length<b.length);have:=Ov (a.take a.length) (a.drop a.length) (b.drop a.length);rw [AI,hp.1,AI,List.drop_length] at this;rw [this];cases hd:b.drop a.length with
   |nil=>have:=congrArg aaW hd;rw [IT] at this;symm;apply decide_eq_false;simp at this;omega
   |cons x y=>have:=congrArg aaW hd;rw [IT] at this;symm;apply decide_eq_true;simp at this;omega
 unfold fK;rw [e,az];cases r with
 |inl u=>
  dsimp only at hr⊢;rw [hr];by_cases h:a.length<b.length
  ·rw [if_pos (by omega)];exact ⟨_,rfl,by simp [h]⟩
  ·rw [if_neg (by omega)];exact ⟨_,rfl,by simp [h]⟩
 |inr n=>exact ⟨n,rfl,hr⟩
theorem A9 (p:List UInt8): ∃l,ig p=some (l,bX p)/\(bX p=true->l=aT p):=by
 rw [JO];unfold bX;cases vW p&&decide (p.length<=100) with
 |false=>exact ⟨_,rfl,λh=>by cases h⟩
 |true=>exact ⟨_,rfl,λ_=>rfl⟩
def vX (p q:List UInt8):Bool:=bX p&&(bX q&&rG (aT p) (aT q))
def rH (p q:List UInt8):Bool:=bX p&&(bX q&&kf (aT p) (aT q))
theorem aa1 (p q:List UInt8):s7 p q=some (vX p q):=by
 unfold s7;obtain ⟨l,e1,h1⟩:=A9 p;obtain ⟨m,e2,h2⟩:=A9 q;rw [e1,az,e2,az,Qy];unfold vX;cases hp:bX p with
 |false=>rfl
 |true=>
  cases hq:bX q with
  |false=>rfl
  |true=>rw [h1 hp,h2 hq];obtain ⟨n,e3,h3⟩:=SR (aT p) (aT q) (by have:=(iw hp).2.2.1;omega);simp only [if_true,e3,az,h3,abK]
theorem MJ (a b:List (List UInt8))(hl:a.length<2^60):fh a b=some (decide (a=b)):=by
 unfold fh;by_cases he:a.length=b.length
 ·have:decide ((a.length:Int)=(b.length:Int))=true:=decide_eq_true (by omega);rw [this];simp only [aa6,BY,if_false];rw [ER he (λk ha hb=>by
   unfold jk;rw [if_pos (by omega),b7 ha,b7 hb,wrap64 (by omega) (by omega)];by_cases hh:a[k]=b[k]<;>simp [hh]) (by
   unfold jk;rw [if_neg (by omega)]),az]
  by_cases hab:a=b<;>simp [hab]
 ·have:decide ((a.length:Int)=(b.length:Int))=false:=decide_eq_false (by omega);rw [this];have hab:a≠b:=λe=>he (by rw [e]);simp [hab]
theorem QD (p q:List UInt8):nZ p q=some (rH p q):=by
 unfold nZ;obtain ⟨l,e1,h1⟩:=A9 p;obtain ⟨m,e2,h2⟩:=A9 q;rw [e1,az,e2,az,Qy];unfold rH;cases hp:bX p with
 |false=>rfl
 |true=>
  cases hq:bX q with
  |false=>rfl
  |true=>
   rw [h1 hp,h2 hq];simp only [if_true,abK,kf];by_cases cI:(aT p).length<(aT q).length
   ·rw [if_pos (by omega),if_pos ⟨by decide,by omega,by omega⟩];simp only [Int.toNat_zero,List.drop_zero,Int.toNat_natCast];rw [MJ _ _ (by have:=(iw hp).2.2.1;omega),az];simp [cI]
   ·rw [if_neg (by omega)];simp [cI]
theorem Ct {p:List UInt8}(h:vW p=true):vh (aT p)=p:=by
 by_cases hp:p=[47]
 ·subst hp;rfl
 ·obtain ⟨r,rfl⟩:=QB h;have hn:aT (47::r)=eh 47 r:=by simp [aT,hp]
  rw [hn,vh,if_neg (ES r),JN]
theorem WG {p q:List UInt8}(hp:vW p=true)(hq:vW q=true)(h:aT p=aT q):p=q:=by rw [<-Ct hp,<-Ct hq,h]
theorem UL {x:List UInt8}(h:ra x=true):(47:UInt8)∉x/\x≠[]:=by unfold ra at h;simp only [sh,decide_eq_true_eq] at h;refine ⟨λhm=> ?_,h.1⟩;have:=No.1 h.2.2 _ hm;exact absurd this (by decide)
theorem JP {L:List (List UInt8)}(h:L.all ra=true):aT (vh L)=L/\vW (vh L)=true/\(L≠[]->vh L≠[47]):=by
 cases L with
 |nil=>exact ⟨rfl,rfl,λh=>absurd rfl h⟩
 |cons a L=>
  have ha:=UL (No.1 h a (by simp));have hm:vh (a::L)=47::(a++L.flatMap ((47:UInt8)::·)):=by simp [vh]
  have cR:vh (a::L)≠[47]:=by
   rw [hm];intro e;have:a++L.flatMap ((47:UInt8)::·)=[]:=by simpa using e
   exact ha.2 (List.append_eq_nil_iff.1 this).1
  refine ⟨?_,by rw [hm];simp [vW],λ_=>cR⟩;unfold aT;rw [if_neg cR];have:=SO (c:=47) (L:=a::L) (by simp) (λx hx=>(UL (No.1 h x hx)).1);simpa [vh] using this
end Dn.S
