import Derived.Test.YtbkodohojpchjaaGreatDoorDnPPath3
/-
  Paths: below, ahead, joined; PathOrder, PathJoins, PathMade. Conditions: none.
-/
open Go Dn
set_option linter.unusedVariables false
set_option linter.unusedSimpArgs false
namespace Dn.S
theorem Cz (a:List UInt8):Op.bytesLess a a=false:=by
 induction a with
 |nil=>rfl
 |cons x a ih=>simp [Op.bytesLess,ih]
theorem ac4 (a b:List UInt8):Op.bytesLess a b=true∨a=b∨Op.bytesLess b a=true:=by
 induction a generalizing b with
 |nil=>cases b<;>simp [Op.bytesLess]
 |cons x a ih=>
  cases b with
  |nil=>simp [Op.bytesLess]
  |cons y b=>
   simp only [Op.bytesLess,Bool.or_eq_true,decide_eq_true_eq,Bool.and_eq_true,beq_iff_eq,List.cons.injEq]
   rcases Nat.lt_trichotomy x.toNat y.toNat with h|h|h
   ·exact .inl (.inl (UInt8.lt_iff_toNat_lt.2 h))
   ·have Nr:=UInt8.toNat_inj.1 h
    subst Nr
    rcases ih b with h|h|h
    ·exact .inl (.inr ⟨rfl,h⟩)
    ·exact .inr (.inl ⟨rfl,h⟩)
    ·exact .inr (.inr (.inr ⟨rfl,h⟩))
   ·exact .inr (.inr (.inl (UInt8.lt_iff_toNat_lt.2 h)))
theorem MO {a b c:List UInt8} (h1:Op.bytesLess a b=true) (h2:Op.bytesLess b c=true):Op.bytesLess a c=true:=by
 induction a generalizing b c with
 |nil=>
  cases b with
  |nil=>simp [Op.bytesLess] at h1
  |cons y b=>cases c with
   |nil=>simp [Op.bytesLess] at h2
   |cons z c=>rfl
 |cons x a ih=>
  cases b with
  |nil=>simp [Op.bytesLess] at h1
  |cons y b=>
   cases c with
   |nil=>simp [Op.bytesLess] at h2
   |cons z c=>
    simp only [Op.bytesLess,Bool.or_eq_true,decide_eq_true_eq,Bool.and_eq_true,beq_iff_eq,UInt8.lt_iff_toNat_lt] at h1 h2⊢
    rcases h1 with h1|⟨rfl,h1⟩
    ·rcases h2 with h2|⟨rfl,h2⟩
     ·exact .inl (by omega)
     ·exact .inl h1
    ·rcases h2 with h2|⟨rfl,h2⟩
     ·exact .inl h2
     ·exact .inr ⟨rfl,ih h1 h2⟩
def mW:List (List UInt8)→List (List UInt8)→Bool
 |[],[]=>false
 |[],_::_=>true
 |_::_,[]=>false
 |a::x,b::y=>Op.bytesLess a b||(decide (a=b)&&mW x y)
theorem BA (a:List (List UInt8)):mW a a=false:=by
 induction a with
 |nil=>rfl
 |cons x a ih=>simp [mW,Cz,ih]
theorem ZD (a b:List (List UInt8)):mW a b=true∨a=b∨mW b a=true:=by
 induction a generalizing b with
 |nil=>cases b<;>simp [mW]
 |cons x a ih=>
  cases b with
  |nil=>simp [mW]
  |cons y b=>
   simp only [mW,Bool.or_eq_true,decide_eq_true_eq,Bool.and_eq_true,List.cons.injEq]
   rcases ac4 x y with h|rfl|h
   ·exact .inl (.inl h)
   ·rcases ih b with h|h|h
    ·exact .inl (.inr ⟨rfl,h⟩)
    ·exact .inr (.inl ⟨rfl,h⟩)
    ·exact .inr (.inr (.inr ⟨rfl,h⟩))
   ·exact .inr (.inr (.inl h))
theorem CA {a b c:List (List UInt8)} (h1:mW a b=true) (h2:mW b c=true):mW a c=true:=by
 induction a generalizing b c with
 |nil=>
  cases b with
  |nil=>simp [mW] at h1
  |cons y b=>cases c with
   |nil=>simp [mW] at h2
   |cons z c=>rfl
 |cons x a ih=>
  cases b with
  |nil=>simp [mW] at h1
  |cons y b=>
   cases c with
   |nil=>simp [mW] at h2
   |cons z c=>
    simp only [mW,Bool.or_eq_true,decide_eq_true_eq,Bool.and_eq_true] at h1 h2⊢
    rcases h1 with h1|⟨rfl,h1⟩
    ·rcases h2 with h2|⟨rfl,h2⟩
     ·exact .inl (MO h1 h2)
     ·exact .inl h1
    ·rcases h2 with h2|⟨rfl,h2⟩
     ·exact .inl h2
     ·exact .inr ⟨rfl,ih h1 h2⟩
theorem BB (a x y:List (List UInt8)):mW (a++x) (a++y)=mW x y:=by
 induction a with
 |nil=>rfl
 |cons z a ih=>simp [mW,Cz,ih]
def jm (a b:List (List UInt8)):Bool:=decide (a.length<b.length)&&decide (a=b.take a.length)
theorem Wr {a b:List (List UInt8)} (h:jm a b=true):mW a b=true:=by
 unfold jm at h
 simp only [Bool.and_eq_true,decide_eq_true_eq] at h
 have hb:b=a++b.drop a.length:=by
  have:=List.take_append_drop a.length b
  rw [←h.2] at this;exact this.symm
 have hd:b.drop a.length≠[]:=by
  intro e
  have:=congrArg List.length e
  rw [List.length_drop] at this;simp at this;omega
 rw [hb]
 have:=BB a [] (b.drop a.length)
 rw [List.append_nil] at this
 rw [this]
 cases hq:b.drop a.length with
 |nil=>exact absurd hq hd
 |cons=>rfl
theorem ZE {a b c:List (List UInt8)} (h1:mW a b=true) (h2:mW b c=true) (h3:jm a c=true):jm a b=true:=by
 induction a generalizing b c with
 |nil=>
  cases b with
  |nil=>simp [mW] at h1
  |cons y b=>simp [jm]
 |cons x a ih=>
  cases c with
  |nil=>simp [jm] at h3
  |cons z c=>
   cases b with
   |nil=>simp [mW] at h1
   |cons y b=>
    have h3':x=z∧jm a c=true:=by
     simp only [jm,List.length_cons,List.take_succ_cons,List.cons.injEq,Bool.and_eq_true,decide_eq_true_eq] at h3
     exact ⟨h3.2.1,by simp only [jm,Bool.and_eq_true,decide_eq_true_eq];exact ⟨by omega,h3.2.2⟩⟩
    obtain ⟨rfl,h3'⟩:=h3'
    simp only [mW,Bool.or_eq_true,decide_eq_true_eq,Bool.and_eq_true] at h1 h2
    have Nr:x=y∧mW a b=true∧mW b c=true:=by
     rcases h1 with h1|⟨rfl,h1⟩
     ·rcases h2 with h2|⟨rfl,h2⟩
      ·have:=MO h1 h2;rw [Cz] at this;cases this
      ·rw [Cz] at h1;cases h1
     ·rcases h2 with h2|⟨_,h2⟩
      ·rw [Cz] at h2;cases h2
      ·exact ⟨rfl,h1,h2⟩
    obtain ⟨rfl,g1,g2⟩:=Nr
    have:=ih g1 g2 h3'
    simp only [jm,List.length_cons,List.take_succ_cons,List.cons.injEq,Bool.and_eq_true,decide_eq_true_eq] at this⊢
    exact ⟨by omega,trivial,this.2⟩
theorem cmp_eq (x y:List UInt8):il x y=some (if Op.bytesLess x y then-1 else if x=y then 0 else 1):=by
 unfold il jW
 simp only [decide_true,Bool.not_true,aA,Bool.false_eq_true,if_false]
 by_cases h:Op.bytesLess x y=true
 ·simp [h]
 ·by_cases he:x=y
  ·simp [he,Cz]
  ·simp [h,he]
theorem Pf (a b:List (List UInt8)) (hl:a.length<2^60): ∃n,fD a b=some n∧decide (n<0)=mW a b:=by
 obtain ⟨r,e,hr⟩: ∃r,Loop (eH a b) 0=some r∧(match r with| .inl ()=>mW a b=decide (a.length<b.length)| .inr n=>decide (n<0)=mW a b):=by
  refine bu.count (fun k=>(k:Int)) a.length (fun k=>a.take k=b.take k∧k≤b.length) rfl ⟨rfl,by omega⟩ (fun k hk hp=> ?_) (fun hp=> ?_)
  ·have dn:mW a b=mW (a.drop k) (b.drop k):=by
    have:=BB (a.take k) (a.drop k) (b.drop k)
    rw [List.take_append_drop,hp.1,List.take_append_drop] at this
    exact this
   have hda:a.drop k=a[k]::a.drop (k+1):=List.drop_eq_getElem_cons hk
   unfold eH
   rw [if_pos (by omega),bt hk]
   by_cases hb:b.length≤k
   ·rw [if_pos (by omega)]
    refine .mk ?_
    show decide ((1:Int)<0)=mW a b
    rw [dn,hda,List.drop_eq_nil_of_le hb];rfl
   ·have hb:k<b.length:=by omega
    have hdb:b.drop k=b[k]::b.drop (k+1):=List.drop_eq_getElem_cons hb
    rw [if_neg (by omega),bt hb,cmp_eq,aA]
    rw [hda,hdb] at dn
    simp only [mW] at dn
    by_cases h1:Op.bytesLess a[k] b[k]=true
    ·simp only [h1,if_true]
     refine .mk ?_
     show decide ((-1:Int)<0)=mW a b
     rw [dn,h1];rfl
    ·rw [Bool.not_eq_true] at h1
     by_cases h2:a[k]=b[k]
     ·have hc:(if Op.bytesLess a[k] b[k]=true then (-1:Int) else if a[k]=b[k] then 0 else 1)=0:=by rw [h1,if_neg (by decide),if_pos h2]
      rw [hc,if_neg (by decide)]
      rw [wrap64 (by omega) (by omega)]
      refine .mk ⟨by omega,?_,by omega⟩
      rw [take_succ hk,take_succ hb,hp.1,h2]
     ·simp only [h1,Bool.false_eq_true,if_false,h2]
      refine .mk ?_
      show decide ((1:Int)<0)=mW a b
      rw [dn,h1];simp [h2]
  ·unfold eH
   rw [if_neg (by omega)]
   refine .mk ?_
   show mW a b=decide (a.length<b.length)
   have:=BB (a.take a.length) (a.drop a.length) (b.drop a.length)
   rw [List.take_append_drop,hp.1,List.take_append_drop,List.drop_length] at this
   rw [this]
   cases hd:b.drop a.length with
   |nil=>
    have:=congrArg List.length hd
    rw [List.length_drop] at this
    symm;apply decide_eq_false;simp at this;omega
   |cons x y=>
    have:=congrArg List.length hd
    rw [List.length_drop] at this
    symm;apply decide_eq_true;simp at this;omega
 unfold fD
 rw [e,aA]
 cases r with
 |inl u=>
  dsimp only at hr⊢
  rw [hr]
  by_cases h:a.length<b.length
  ·rw [if_pos (by omega)];exact ⟨_,rfl,by simp [h]⟩
  ·rw [if_neg (by omega)];exact ⟨_,rfl,by simp [h]⟩
 |inr n=>exact ⟨n,rfl,hr⟩
theorem yQ (p:List UInt8): ∃l,gw p=some (l,bm p)∧(bm p=true→l=aK p):=by
 rw [Gx]
 unfold bm
 cases lW p&&decide (p.length≤100) with
 |false=>exact ⟨_,rfl,fun h=>by cases h⟩
 |true=>exact ⟨_,rfl,fun _=>rfl⟩
def lf (p q:List UInt8):Bool:=bm p&&(bm q&&mW (aK p) (aK q))
def qf (p q:List UInt8):Bool:=bm p&&(bm q&&jm (aK p) (aK q))
theorem Ws (p q:List UInt8):rn p q=some (lf p q):=by
 unfold rn
 obtain ⟨l,e1,h1⟩:=yQ p
 obtain ⟨m,e2,h2⟩:=yQ q
 rw [e1,aA,e2,aA,Gt]
 unfold lf
 cases hp:bm p with
 |false=>rfl
 |true=>
  cases hq:bm q with
  |false=>rfl
  |true=>
   rw [h1 hp,h2 hq]
   obtain ⟨n,e3,h3⟩:=Pf (aK p) (aK q) (by have:=(ea hp).2.2.1;omega)
   simp only [if_true,e3,aA,h3,Bool.true_and]
theorem Jk (a b:List (List UInt8)) (hl:a.length<2^60):eZ a b=some (decide (a=b)):=by
 unfold eZ
 by_cases he:a.length=b.length
 ·have:decide ((a.length:Int)=(b.length:Int))=true:=decide_eq_true (by omega)
  rw [this]
  simp only [Bool.not_true,Bool.false_eq_true,if_false]
  rw [yO he (fun k ha hb=>by
   unfold ir
   rw [if_pos (by omega),bt ha,bt hb,wrap64 (by omega) (by omega)]
   by_cases hh:a[k]=b[k]<;>simp [hh]) (by
   unfold ir
   rw [if_neg (by omega)]),aA]
  by_cases O9:a=b<;>simp [O9]
 ·have:decide ((a.length:Int)=(b.length:Int))=false:=decide_eq_false (by omega)
  rw [this]
  have O9:a≠b:=fun e=>he (by rw [e])
  simp [O9]
theorem MP (p q:List UInt8):mP p q=some (qf p q):=by
 unfold mP
 obtain ⟨l,e1,h1⟩:=yQ p
 obtain ⟨m,e2,h2⟩:=yQ q
 rw [e1,aA,e2,aA,Gt]
 unfold qf
 cases hp:bm p with
 |false=>rfl
 |true=>
  cases hq:bm q with
  |false=>rfl
  |true=>
   rw [h1 hp,h2 hq]
   simp only [if_true,Bool.true_and,jm]
   by_cases dn:(aK p).length<(aK q).length
   ·rw [if_pos (by omega),if_pos ⟨by decide,by omega,by omega⟩]
    simp only [Int.toNat_zero,List.drop_zero,Int.toNat_natCast]
    rw [Jk _ _ (by have:=(ea hp).2.2.1;omega),aA]
    simp [dn]
   ·rw [if_neg (by omega)]
    simp [dn]
theorem Ao {p:List UInt8} (h:lW p=true):pP (aK p)=p:=by
 by_cases hp:p=[47]
 ·subst hp;rfl
 ·obtain ⟨r,rfl⟩:=Gy h
  have hn:aK (47::r)=bT 47 r:=by simp [aK,hp]
  rw [hn,pP,if_neg (qT r),An]
theorem Sy {p q:List UInt8} (hp:lW p=true) (hq:lW q=true) (h:aK p=aK q):p=q:=by
 rw [←Ao hp,←Ao hq,h]
theorem QH {x:List UInt8} (h:kb x=true):(47:UInt8)∉x∧x≠[]:=by
 unfold kb at h
 simp only [Bool.and_eq_true,decide_eq_true_eq] at h
 refine ⟨fun hm=> ?_,h.1⟩
 have:=List.all_eq_true.1 h.2.2 _ hm
 exact absurd this (by decide)
theorem Gz {L:List (List UInt8)} (h:L.all kb=true):aK (pP L)=L∧lW (pP L)=true∧(L≠[]→pP L≠[47]):=by
 cases L with
 |nil=>exact ⟨rfl,rfl,fun h=>absurd rfl h⟩
 |cons a L=>
  have ha:=QH (List.all_eq_true.1 h a (by simp))
  have hm:pP (a::L)=47::(a++L.flatMap ((47:UInt8)::·)):=by simp [pP]
  have db:pP (a::L)≠[47]:=by
   rw [hm];intro e
   have:a++L.flatMap ((47:UInt8)::·)=[]:=by simpa using e
   exact ha.2 (List.append_eq_nil_iff.1 this).1
  refine ⟨?_,by rw [hm];simp [lW],fun _=>db⟩
  unfold aK
  rw [if_neg db]
  have:=Pb (c:=47) (L:=a::L) (by simp) (fun x hx=>(QH (List.all_eq_true.1 h x hx)).1)
  simpa [pP] using this
end Dn.S
