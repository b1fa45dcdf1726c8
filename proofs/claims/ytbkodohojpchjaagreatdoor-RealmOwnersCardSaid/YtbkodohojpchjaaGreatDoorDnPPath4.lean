import Derived.Test.YtbkodohojpchjaaGreatDoorDnPPath3
/-
  Paths: below, ahead, joined; PathOrder, PathJoins, PathMade. Conditions: none.
-/
open Go Dn
set_option linter.unusedVariables false
set_option linter.unusedSimpArgs false
namespace Dn.S
theorem AZ (a:List UInt8):Op.bytesLess a a=false:=by
 induction a with
 |nil=>rfl
 |cons x a ih=>simp [Op.bytesLess,ih]
theorem ZD (a b:List UInt8):Op.bytesLess a b=true∨a=b∨Op.bytesLess b a=true:=by
 induction a generalizing b with
 |nil=>cases b<;>simp [Op.bytesLess]
 |cons x a ih=>
  cases b with
  |nil=>simp [Op.bytesLess]
  |cons y b=>
   simp only [Op.bytesLess,Bool.or_eq_true,decide_eq_true_eq,Bool.and_eq_true,beq_iff_eq,List.cons.injEq]
   rcases Nat.lt_trichotomy x.toNat y.toNat with h|h|h
   ·exact .inl (.inl (UInt8.lt_iff_toNat_lt.2 h))
   ·have K9:=UInt8.toNat_inj.1 h
    subst K9
    rcases ih b with h|h|h
    ·exact .inl (.inr ⟨rfl,h⟩)
    ·exact .inr (.inl ⟨rfl,h⟩)
    ·exact .inr (.inr (.inr ⟨rfl,h⟩))
   ·exact .inr (.inr (.inl (UInt8.lt_iff_toNat_lt.2 h)))
theorem KC {a b c:List UInt8} (h1:Op.bytesLess a b=true) (h2:Op.bytesLess b c=true):Op.bytesLess a c=true:=by
 induction a generalizing b c with
 |nil=>
  cases b with
  |nil=>simp [Op.bytesLess] at h1
  |cons y b=>cases c with
   |nil=>simp [Op.bytesLess] at h2
   |cons z c=>rfl
 |cons x a ih=>
  cases b with
  |nil=>simp [Op.bytesLess] at h1
  |cons y b=>
   cases c with
   |nil=>simp [Op.bytesLess] at h2
   |cons z c=>
    simp only [Op.bytesLess,Bool.or_eq_true,decide_eq_true_eq,Bool.and_eq_true,beq_iff_eq,UInt8.lt_iff_toNat_lt] at h1 h2⊢
    rcases h1 with h1|⟨rfl,h1⟩
    ·rcases h2 with h2|⟨rfl,h2⟩
     ·exact .inl (by omega)
     ·exact .inl h1
    ·rcases h2 with h2|⟨rfl,h2⟩
     ·exact .inl h2
     ·exact .inr ⟨rfl,ih h1 h2⟩
def o8:List (List UInt8)→List (List UInt8)→Bool
 |[],[]=>false
 |[],_::_=>true
 |_::_,[]=>false
 |a::x,b::y=>Op.bytesLess a b||(decide (a=b)&&o8 x y)
theorem zY (a:List (List UInt8)):o8 a a=false:=by
 induction a with
 |nil=>rfl
 |cons x a ih=>simp [o8,AZ,ih]
theorem Wc (a b:List (List UInt8)):o8 a b=true∨a=b∨o8 b a=true:=by
 induction a generalizing b with
 |nil=>cases b<;>simp [o8]
 |cons x a ih=>
  cases b with
  |nil=>simp [o8]
  |cons y b=>
   simp only [o8,Bool.or_eq_true,decide_eq_true_eq,Bool.and_eq_true,List.cons.injEq]
   rcases ZD x y with h|rfl|h
   ·exact .inl (.inl h)
   ·rcases ih b with h|h|h
    ·exact .inl (.inr ⟨rfl,h⟩)
    ·exact .inr (.inl ⟨rfl,h⟩)
    ·exact .inr (.inr (.inr ⟨rfl,h⟩))
   ·exact .inr (.inr (.inl h))
theorem A0 {a b c:List (List UInt8)} (h1:o8 a b=true) (h2:o8 b c=true):o8 a c=true:=by
 induction a generalizing b c with
 |nil=>
  cases b with
  |nil=>simp [o8] at h1
  |cons y b=>cases c with
   |nil=>simp [o8] at h2
   |cons z c=>rfl
 |cons x a ih=>
  cases b with
  |nil=>simp [o8] at h1
  |cons y b=>
   cases c with
   |nil=>simp [o8] at h2
   |cons z c=>
    simp only [o8,Bool.or_eq_true,decide_eq_true_eq,Bool.and_eq_true] at h1 h2⊢
    rcases h1 with h1|⟨rfl,h1⟩
    ·rcases h2 with h2|⟨rfl,h2⟩
     ·exact .inl (KC h1 h2)
     ·exact .inl h1
    ·rcases h2 with h2|⟨rfl,h2⟩
     ·exact .inl h2
     ·exact .inr ⟨rfl,ih h1 h2⟩
theorem IC (a x y:List (List UInt8)):o8 (a++x) (a++y)=o8 x y:=by
 induction a with
 |nil=>rfl
 |cons z a ih=>simp [o8,AZ,ih]
def iX (a b:List (List UInt8)):Bool:=decide (a.length<b.length)&&decide (a=b.take a.length)
theorem Tl {a b:List (List UInt8)} (h:iX a b=true):o8 a b=true:=by
 unfold iX at h
 simp only [Bool.and_eq_true,decide_eq_true_eq] at h
 have hb:b=a++b.drop a.length:=by
  have:=List.take_append_drop a.length b
  rw [←h.2] at this;exact this.symm
 have hd:b.drop a.length≠[]:=by
  intro e
  have:=congrArg List.length e
  rw [List.length_drop] at this;simp at this;omega
 rw [hb]
 have:=IC a [] (b.drop a.length)
 rw [List.append_nil] at this
 rw [this]
 cases hq:b.drop a.length with
 |nil=>exact absurd hq hd
 |cons=>rfl
theorem Wd {a b c:List (List UInt8)} (h1:o8 a b=true) (h2:o8 b c=true) (h3:iX a c=true):iX a b=true:=by
 induction a generalizing b c with
 |nil=>
  cases b with
  |nil=>simp [o8] at h1
  |cons y b=>simp [iX]
 |cons x a ih=>
  cases c with
  |nil=>simp [iX] at h3
  |cons z c=>
   cases b with
   |nil=>simp [o8] at h1
   |cons y b=>
    have WT:x=z∧iX a c=true:=by
     simp only [iX,List.length_cons,List.take_succ_cons,List.cons.injEq,Bool.and_eq_true,decide_eq_true_eq] at h3
     exact ⟨h3.2.1,by simp only [iX,Bool.and_eq_true,decide_eq_true_eq];exact ⟨by omega,h3.2.2⟩⟩
    obtain ⟨rfl,WT⟩:=WT
    simp only [o8,Bool.or_eq_true,decide_eq_true_eq,Bool.and_eq_true] at h1 h2
    have K9:x=y∧o8 a b=true∧o8 b c=true:=by
     rcases h1 with h1|⟨rfl,h1⟩
     ·rcases h2 with h2|⟨rfl,h2⟩
      ·have:=KC h1 h2;rw [AZ] at this;cases this
      ·rw [AZ] at h1;cases h1
     ·rcases h2 with h2|⟨_,h2⟩
      ·rw [AZ] at h2;cases h2
      ·exact ⟨rfl,h1,h2⟩
    obtain ⟨rfl,g1,g2⟩:=K9
    have:=ih g1 g2 WT
    simp only [iX,List.length_cons,List.take_succ_cons,List.cons.injEq,Bool.and_eq_true,decide_eq_true_eq] at this⊢
    exact ⟨by omega,trivial,this.2⟩
theorem cmp_eq (x y:List UInt8):gG x y=some (if Op.bytesLess x y then-1 else if x=y then 0 else 1):=by
 unfold gG jH
 simp only [decide_true,Bool.not_true,aM,Bool.false_eq_true,if_false]
 by_cases h:Op.bytesLess x y=true
 ·simp [h]
 ·by_cases he:x=y
  ·simp [he,AZ]
  ·simp [h,he]
theorem MC (a b:List (List UInt8)) (hl:a.length<2^60): ∃n,eU a b=some n∧decide (n<0)=o8 a b:=by
 obtain ⟨r,e,hr⟩: ∃r,Loop (dS a b) 0=some r∧(match r with| .inl ()=>o8 a b=decide (a.length<b.length)| .inr n=>decide (n<0)=o8 a b):=by
  refine bK.count (fun k=>(k:Int)) a.length (fun k=>a.take k=b.take k∧k≤b.length) rfl ⟨rfl,by omega⟩ (fun k hk hp=> ?_) (fun hp=> ?_)
  ·have cz:o8 a b=o8 (a.drop k) (b.drop k):=by
    have:=IC (a.take k) (a.drop k) (b.drop k)
    rw [List.take_append_drop,hp.1,List.take_append_drop] at this
    exact this
   have hda:a.drop k=a[k]::a.drop (k+1):=List.drop_eq_getElem_cons hk
   unfold dS
   rw [if_pos (by omega),cg hk]
   by_cases hb:b.length≤k
   ·rw [if_pos (by omega)]
    refine .mk ?_
    show decide ((1:Int)<0)=o8 a b
    rw [cz,hda,List.drop_eq_nil_of_le hb];rfl
   ·have hb:k<b.length:=by omega
    have hdb:b.drop k=b[k]::b.drop (k+1):=List.drop_eq_getElem_cons hb
    rw [if_neg (by omega),cg hb,cmp_eq,aM]
    rw [hda,hdb] at cz
    simp only [o8] at cz
    by_cases h1:Op.bytesLess a[k] b[k]=true
    ·simp only [h1,if_true]
     refine .mk ?_
     show decide ((-1:Int)<0)=o8 a b
     rw [cz,h1];rfl
    ·rw [Bool.not_eq_true] at h1
     by_cases h2:a[k]=b[k]
     ·have hc:(if Op.bytesLess a[k] b[k]=true then (-1:Int) else if a[k]=b[k] then 0 else 1)=0:=by rw [h1,if_neg (by decide),if_pos h2]
      rw [hc,if_neg (by decide)]
      rw [wrap64 (by omega) (by omega)]
      refine .mk ⟨by omega,?_,by omega⟩
      rw [take_succ hk,take_succ hb,hp.1,h2]
     ·simp only [h1,Bool.false_eq_true,if_false,h2]
      refine .mk ?_
      show decide ((1:Int)<0)=o8 a b
      rw [cz,h1];simp [h2]
  ·unfold dS
   rw [if_neg (by omega)]
   refine .mk ?_
   show o8 a b=decide (a.length<b.length)
   have:=IC (a.take a.length) (a.drop a.length) (b.drop a.length)
   rw [List.take_append_drop,hp.1,List.take_append_drop,List.drop_length] at this
   rw [this]
   cases hd:b.drop a.length with
   |nil=>
    have:=congrArg List.length hd
    rw [List.length_drop] at this
    symm;apply decide_eq_false;simp at this;omega
   |cons x y=>
    have:=congrArg List.length hd
    rw [List.length_drop] at this
    symm;apply decide_eq_true;simp at this;omega
 unfold eU
 rw [e,aM]
 cases r with
 |inl u=>
  dsimp only at hr⊢
  rw [hr]
  by_cases h:a.length<b.length
  ·rw [if_pos (by omega)];exact ⟨_,rfl,by simp [h]⟩
  ·rw [if_neg (by omega)];exact ⟨_,rfl,by simp [h]⟩
 |inr n=>exact ⟨n,rfl,hr⟩
theorem xt (p:List UInt8): ∃l,fQ p=some (l,bw p)∧(bw p=true→l=aP p):=by
 rw [EL]
 unfold bw
 cases sM p&&decide (p.length≤100) with
 |false=>exact ⟨_,rfl,fun h=>by cases h⟩
 |true=>exact ⟨_,rfl,fun _=>rfl⟩
def mF (p q:List UInt8):Bool:=bw p&&(bw q&&o8 (aP p) (aP q))
def pC (p q:List UInt8):Bool:=bw p&&(bw q&&iX (aP p) (aP q))
theorem KD (p q:List UInt8):nT p q=some (mF p q):=by
 unfold nT
 obtain ⟨l,e1,h1⟩:=xt p
 obtain ⟨m,e2,h2⟩:=xt q
 rw [e1,aM,e2,aM,Hc]
 unfold mF
 cases hp:bw p with
 |false=>rfl
 |true=>
  cases hq:bw q with
  |false=>rfl
  |true=>
   rw [h1 hp,h2 hq]
   obtain ⟨n,e3,h3⟩:=MC (aP p) (aP q) (by have:=(ga hp).2.2.1;omega)
   simp only [if_true,e3,aM,h3,Bool.true_and]
theorem Hg (a b:List (List UInt8)) (hl:a.length<2^60):eA a b=some (decide (a=b)):=by
 unfold eA
 by_cases he:a.length=b.length
 ·have:decide ((a.length:Int)=(b.length:Int))=true:=decide_eq_true (by omega)
  rw [this]
  simp only [Bool.not_true,Bool.false_eq_true,if_false]
  rw [AW he (fun k ha hb=>by
   unfold gM
   rw [if_pos (by omega),cg ha,cg hb,wrap64 (by omega) (by omega)]
   by_cases hh:a[k]=b[k]<;>simp [hh]) (by
   unfold gM
   rw [if_neg (by omega)]),aM]
  by_cases Wa:a=b<;>simp [Wa]
 ·have:decide ((a.length:Int)=(b.length:Int))=false:=decide_eq_false (by omega)
  rw [this]
  have Wa:a≠b:=fun e=>he (by rw [e])
  simp [Wa]
theorem KE (p q:List UInt8):mw p q=some (pC p q):=by
 unfold mw
 obtain ⟨l,e1,h1⟩:=xt p
 obtain ⟨m,e2,h2⟩:=xt q
 rw [e1,aM,e2,aM,Hc]
 unfold pC
 cases hp:bw p with
 |false=>rfl
 |true=>
  cases hq:bw q with
  |false=>rfl
  |true=>
   rw [h1 hp,h2 hq]
   simp only [if_true,Bool.true_and,iX]
   by_cases cz:(aP p).length<(aP q).length
   ·rw [if_pos (by omega),if_pos ⟨by decide,by omega,by omega⟩]
    simp only [Int.toNat_zero,List.drop_zero,Int.toNat_natCast]
    rw [Hg _ _ (by have:=(ga hp).2.2.1;omega),aM]
    simp [cz]
   ·rw [if_neg (by omega)]
    simp [cz]
theorem yT {p:List UInt8} (h:sM p=true):sd (aP p)=p:=by
 by_cases hp:p=[47]
 ·subst hp;rfl
 ·obtain ⟨r,rfl⟩:=KB h
  have hn:aP (47::r)=dA 47 r:=by simp [aP,hp]
  rw [hn,sd,if_neg (AX r),EK]
theorem PQ {p q:List UInt8} (hp:sM p=true) (hq:sM q=true) (h:aP p=aP q):p=q:=by
 rw [←yT hp,←yT hq,h]
theorem N2 {x:List UInt8} (h:o6 x=true):(47:UInt8)∉x∧x≠[]:=by
 unfold o6 at h
 simp only [Bool.and_eq_true,decide_eq_true_eq] at h
 refine ⟨fun hm=> ?_,h.1⟩
 have:=List.all_eq_true.1 h.2.2 _ hm
 exact absurd this (by decide)
theorem EM {L:List (List UInt8)} (h:L.all o6=true):aP (sd L)=L∧sM (sd L)=true∧(L≠[]→sd L≠[47]):=by
 cases L with
 |nil=>exact ⟨rfl,rfl,fun h=>absurd rfl h⟩
 |cons a L=>
  have ha:=N2 (List.all_eq_true.1 h a (by simp))
  have hm:sd (a::L)=47::(a++L.flatMap ((47:UInt8)::·)):=by simp [sd]
  have cI:sd (a::L)≠[47]:=by
   rw [hm];intro e
   have:a++L.flatMap ((47:UInt8)::·)=[]:=by simpa using e
   exact ha.2 (List.append_eq_nil_iff.1 this).1
  refine ⟨?_,by rw [hm];simp [sM],fun _=>cI⟩
  unfold aP
  rw [if_neg cI]
  have:=Mz (c:=47) (L:=a::L) (by simp) (fun x hx=>(N2 (List.all_eq_true.1 h x hx)).1)
  simpa [sd] using this
end Dn.S
