import Derived.Test.YtbkodohojpchjaaGreatDoorDnPPath3
/-
  Paths: below, ahead, joined; PathOrder, PathJoins, PathMade. Conditions: none.
-/
open Go Dn
set_option linter.unusedVariables false
set_option linter.unusedSimpArgs false
namespace Dn.S
theorem Co (a:List UInt8):Op.bytesLess a a=false:=by
 induction a with
 |nil=>rfl
 |cons x a ih=>simp [Op.bytesLess,ih]
theorem acB (a b:List UInt8):Op.bytesLess a b=true∨a=b∨Op.bytesLess b a=true:=by
 induction a generalizing b with
 |nil=>cases b<;>simp [Op.bytesLess]
 |cons x a ih=>
  cases b with
  |nil=>simp [Op.bytesLess]
  |cons y b=>
   simp only [Op.bytesLess,Bool.or_eq_true,decide_eq_true_eq,Bool.and_eq_true,beq_iff_eq,List.cons.injEq]
   rcases Nat.lt_trichotomy x.toNat y.toNat with h|h|h
   ·exact .inl (.inl (UInt8.lt_iff_toNat_lt.2 h))
   ·have M5:=UInt8.toNat_inj.1 h
    subst M5
    rcases ih b with h|h|h
    ·exact .inl (.inr ⟨rfl,h⟩)
    ·exact .inr (.inl ⟨rfl,h⟩)
    ·exact .inr (.inr (.inr ⟨rfl,h⟩))
   ·exact .inr (.inr (.inl (UInt8.lt_iff_toNat_lt.2 h)))
theorem Mv {a b c:List UInt8} (h1:Op.bytesLess a b=true) (h2:Op.bytesLess b c=true):Op.bytesLess a c=true:=by
 induction a generalizing b c with
 |nil=>
  cases b with
  |nil=>simp [Op.bytesLess] at h1
  |cons y b=>cases c with
   |nil=>simp [Op.bytesLess] at h2
   |cons z c=>rfl
 |cons x a ih=>
  cases b with
  |nil=>simp [Op.bytesLess] at h1
  |cons y b=>
   cases c with
   |nil=>simp [Op.bytesLess] at h2
   |cons z c=>
    simp only [Op.bytesLess,Bool.or_eq_true,decide_eq_true_eq,Bool.and_eq_true,beq_iff_eq,UInt8.lt_iff_toNat_lt] at h1 h2⊢
    rcases h1 with h1|⟨rfl,h1⟩
    ·rcases h2 with h2|⟨rfl,h2⟩
     ·exact .inl (by omega)
     ·exact .inl h1
    ·rcases h2 with h2|⟨rfl,h2⟩
     ·exact .inl h2
     ·exact .inr ⟨rfl,ih h1 h2⟩
def mU:List (List UInt8)→List (List UInt8)→Bool
 |[],[]=>false
 |[],_::_=>true
 |_::_,[]=>false
 |a::x,b::y=>Op.bytesLess a b||(decide (a=b)&&mU x y)
theorem Bo (a:List (List UInt8)):mU a a=false:=by
 induction a with
 |nil=>rfl
 |cons x a ih=>simp [mU,Co,ih]
theorem YZ (a b:List (List UInt8)):mU a b=true∨a=b∨mU b a=true:=by
 induction a generalizing b with
 |nil=>cases b<;>simp [mU]
 |cons x a ih=>
  cases b with
  |nil=>simp [mU]
  |cons y b=>
   simp only [mU,Bool.or_eq_true,decide_eq_true_eq,Bool.and_eq_true,List.cons.injEq]
   rcases acB x y with h|rfl|h
   ·exact .inl (.inl h)
   ·rcases ih b with h|h|h
    ·exact .inl (.inr ⟨rfl,h⟩)
    ·exact .inr (.inl ⟨rfl,h⟩)
    ·exact .inr (.inr (.inr ⟨rfl,h⟩))
   ·exact .inr (.inr (.inl h))
theorem Cp {a b c:List (List UInt8)} (h1:mU a b=true) (h2:mU b c=true):mU a c=true:=by
 induction a generalizing b c with
 |nil=>
  cases b with
  |nil=>simp [mU] at h1
  |cons y b=>cases c with
   |nil=>simp [mU] at h2
   |cons z c=>rfl
 |cons x a ih=>
  cases b with
  |nil=>simp [mU] at h1
  |cons y b=>
   cases c with
   |nil=>simp [mU] at h2
   |cons z c=>
    simp only [mU,Bool.or_eq_true,decide_eq_true_eq,Bool.and_eq_true] at h1 h2⊢
    rcases h1 with h1|⟨rfl,h1⟩
    ·rcases h2 with h2|⟨rfl,h2⟩
     ·exact .inl (Mv h1 h2)
     ·exact .inl h1
    ·rcases h2 with h2|⟨rfl,h2⟩
     ·exact .inl h2
     ·exact .inr ⟨rfl,ih h1 h2⟩
theorem Bp (a x y:List (List UInt8)):mU (a++x) (a++y)=mU x y:=by
 induction a with
 |nil=>rfl
 |cons z a ih=>simp [mU,Co,ih]
def ji (a b:List (List UInt8)):Bool:=decide (a.length<b.length)&&decide (a=b.take a.length)
theorem VY {a b:List (List UInt8)} (h:ji a b=true):mU a b=true:=by
 unfold ji at h
 simp only [Bool.and_eq_true,decide_eq_true_eq] at h
 have hb:b=a++b.drop a.length:=by
  have:=List.take_append_drop a.length b
  rw [←h.2] at this;exact this.symm
 have hd:b.drop a.length≠[]:=by
  intro e
  have:=congrArg List.length e
  rw [List.length_drop] at this;simp at this;omega
 rw [hb]
 have:=Bp a [] (b.drop a.length)
 rw [List.append_nil] at this
 rw [this]
 cases hq:b.drop a.length with
 |nil=>exact absurd hq hd
 |cons=>rfl
theorem Y0 {a b c:List (List UInt8)} (h1:mU a b=true) (h2:mU b c=true) (h3:ji a c=true):ji a b=true:=by
 induction a generalizing b c with
 |nil=>
  cases b with
  |nil=>simp [mU] at h1
  |cons y b=>simp [ji]
 |cons x a ih=>
  cases c with
  |nil=>simp [ji] at h3
  |cons z c=>
   cases b with
   |nil=>simp [mU] at h1
   |cons y b=>
    have ZL:x=z∧ji a c=true:=by
     simp only [ji,List.length_cons,List.take_succ_cons,List.cons.injEq,Bool.and_eq_true,decide_eq_true_eq] at h3
     exact ⟨h3.2.1,by simp only [ji,Bool.and_eq_true,decide_eq_true_eq];exact ⟨by omega,h3.2.2⟩⟩
    obtain ⟨rfl,ZL⟩:=ZL
    simp only [mU,Bool.or_eq_true,decide_eq_true_eq,Bool.and_eq_true] at h1 h2
    have M5:x=y∧mU a b=true∧mU b c=true:=by
     rcases h1 with h1|⟨rfl,h1⟩
     ·rcases h2 with h2|⟨rfl,h2⟩
      ·have:=Mv h1 h2;rw [Co] at this;cases this
      ·rw [Co] at h1;cases h1
     ·rcases h2 with h2|⟨_,h2⟩
      ·rw [Co] at h2;cases h2
      ·exact ⟨rfl,h1,h2⟩
    obtain ⟨rfl,g1,g2⟩:=M5
    have:=ih g1 g2 ZL
    simp only [ji,List.length_cons,List.take_succ_cons,List.cons.injEq,Bool.and_eq_true,decide_eq_true_eq] at this⊢
    exact ⟨by omega,trivial,this.2⟩
theorem cmp_eq (x y:List UInt8):iq x y=some (if Op.bytesLess x y then-1 else if x=y then 0 else 1):=by
 unfold iq jT
 simp only [decide_true,Bool.not_true,aC,Bool.false_eq_true,if_false]
 by_cases h:Op.bytesLess x y=true
 ·simp [h]
 ·by_cases he:x=y
  ·simp [he,Co]
  ·simp [h,he]
theorem OW (a b:List (List UInt8)) (hl:a.length<2^60): ∃n,ft a b=some n∧decide (n<0)=mU a b:=by
 obtain ⟨r,e,hr⟩: ∃r,Loop (ey a b) 0=some r∧(match r with| .inl ()=>mU a b=decide (a.length<b.length)| .inr n=>decide (n<0)=mU a b):=by
  refine bq.count (fun k=>(k:Int)) a.length (fun k=>a.take k=b.take k∧k≤b.length) rfl ⟨rfl,by omega⟩ (fun k hk hp=> ?_) (fun hp=> ?_)
  ·have da:mU a b=mU (a.drop k) (b.drop k):=by
    have:=Bp (a.take k) (a.drop k) (b.drop k)
    rw [List.take_append_drop,hp.1,List.take_append_drop] at this
    exact this
   have hda:a.drop k=a[k]::a.drop (k+1):=List.drop_eq_getElem_cons hk
   unfold ey
   rw [if_pos (by omega),bx hk]
   by_cases hb:b.length≤k
   ·rw [if_pos (by omega)]
    refine .mk ?_
    show decide ((1:Int)<0)=mU a b
    rw [da,hda,List.drop_eq_nil_of_le hb];rfl
   ·have hb:k<b.length:=by omega
    have hdb:b.drop k=b[k]::b.drop (k+1):=List.drop_eq_getElem_cons hb
    rw [if_neg (by omega),bx hb,cmp_eq,aC]
    rw [hda,hdb] at da
    simp only [mU] at da
    by_cases h1:Op.bytesLess a[k] b[k]=true
    ·simp only [h1,if_true]
     refine .mk ?_
     show decide ((-1:Int)<0)=mU a b
     rw [da,h1];rfl
    ·rw [Bool.not_eq_true] at h1
     by_cases h2:a[k]=b[k]
     ·have hc:(if Op.bytesLess a[k] b[k]=true then (-1:Int) else if a[k]=b[k] then 0 else 1)=0:=by rw [h1,if_neg (by decide),if_pos h2]
      rw [hc,if_neg (by decide)]
      rw [wrap64 (by omega) (by omega)]
      refine .mk ⟨by omega,?_,by omega⟩
      rw [take_succ hk,take_succ hb,hp.1,h2]
     ·simp only [h1,Bool.false_eq_true,if_false,h2]
      refine .mk ?_
      show decide ((1:Int)<0)=mU a b
      rw [da,h1];simp [h2]
  ·unfold ey
   rw [if_neg (by omega)]
   refine .mk ?_
   show mU a b=decide (a.length<b.length)
   have:=Bp (a.take a.length) (a.drop a.length) (b.drop a.length)
   rw [List.take_append_drop,hp.1,List.take_append_drop,List.drop_length] at this
   rw [this]
   cases hd:b.drop a.length with
   |nil=>
    have:=congrArg List.length hd
    rw [List.length_drop] at this
    symm;apply decide_eq_false;simp at this;omega
   |cons x y=>
    have:=congrArg List.length hd
    rw [List.length_drop] at this
    symm;apply decide_eq_true;simp at this;omega
 unfold ft
 rw [e,aC]
 cases r with
 |inl u=>
  dsimp only at hr⊢
  rw [hr]
  by_cases h:a.length<b.length
  ·rw [if_pos (by omega)];exact ⟨_,rfl,by simp [h]⟩
  ·rw [if_neg (by omega)];exact ⟨_,rfl,by simp [h]⟩
 |inr n=>exact ⟨n,rfl,hr⟩
theorem yC (p:List UInt8): ∃l,gn p=some (l,bk p)∧(bk p=true→l=aL p):=by
 rw [Gx]
 unfold bk
 cases lW p&&decide (p.length≤100) with
 |false=>exact ⟨_,rfl,fun h=>by cases h⟩
 |true=>exact ⟨_,rfl,fun _=>rfl⟩
def lf (p q:List UInt8):Bool:=bk p&&(bk q&&mU (aL p) (aL q))
def pZ (p q:List UInt8):Bool:=bk p&&(bk q&&ji (aL p) (aL q))
theorem VZ (p q:List UInt8):q9 p q=some (lf p q):=by
 unfold q9
 obtain ⟨l,e1,h1⟩:=yC p
 obtain ⟨m,e2,h2⟩:=yC q
 rw [e1,aC,e2,aC,Gt]
 unfold lf
 cases hp:bk p with
 |false=>rfl
 |true=>
  cases hq:bk q with
  |false=>rfl
  |true=>
   rw [h1 hp,h2 hq]
   obtain ⟨n,e3,h3⟩:=OW (aL p) (aL q) (by have:=(dU hp).2.2.1;omega)
   simp only [if_true,e3,aC,h3,Bool.true_and]
theorem Jb (a b:List (List UInt8)) (hl:a.length<2^60):eV a b=some (decide (a=b)):=by
 unfold eV
 by_cases he:a.length=b.length
 ·have:decide ((a.length:Int)=(b.length:Int))=true:=decide_eq_true (by omega)
  rw [this]
  simp only [Bool.not_true,Bool.false_eq_true,if_false]
  rw [Cn he (fun k ha hb=>by
   unfold iv
   rw [if_pos (by omega),bx ha,bx hb,wrap64 (by omega) (by omega)]
   by_cases hh:a[k]=b[k]<;>simp [hh]) (by
   unfold iv
   rw [if_neg (by omega)]),aC]
  by_cases VS:a=b<;>simp [VS]
 ·have:decide ((a.length:Int)=(b.length:Int))=false:=decide_eq_false (by omega)
  rw [this]
  have VS:a≠b:=fun e=>he (by rw [e])
  simp [VS]
theorem Mw (p q:List UInt8):mO p q=some (pZ p q):=by
 unfold mO
 obtain ⟨l,e1,h1⟩:=yC p
 obtain ⟨m,e2,h2⟩:=yC q
 rw [e1,aC,e2,aC,Gt]
 unfold pZ
 cases hp:bk p with
 |false=>rfl
 |true=>
  cases hq:bk q with
  |false=>rfl
  |true=>
   rw [h1 hp,h2 hq]
   simp only [if_true,Bool.true_and,ji]
   by_cases da:(aL p).length<(aL q).length
   ·rw [if_pos (by omega),if_pos ⟨by decide,by omega,by omega⟩]
    simp only [Int.toNat_zero,List.drop_zero,Int.toNat_natCast]
    rw [Jb _ _ (by have:=(dU hp).2.2.1;omega),aC]
    simp [da]
   ·rw [if_neg (by omega)]
    simp [da]
theorem z1 {p:List UInt8} (h:lW p=true):pI (aL p)=p:=by
 by_cases hp:p=[47]
 ·subst hp;rfl
 ·obtain ⟨r,rfl⟩:=Gy h
  have hn:aL (47::r)=bU 47 r:=by simp [aL,hp]
  rw [hn,pI,if_neg (qK r),zZ]
theorem Se {p q:List UInt8} (hp:lW p=true) (hq:lW q=true) (h:aL p=aL q):p=q:=by
 rw [←z1 hp,←z1 hq,h]
theorem Qh {x:List UInt8} (h:j6 x=true):(47:UInt8)∉x∧x≠[]:=by
 unfold j6 at h
 simp only [Bool.and_eq_true,decide_eq_true_eq] at h
 refine ⟨fun hm=> ?_,h.1⟩
 have:=List.all_eq_true.1 h.2.2 _ hm
 exact absurd this (by decide)
theorem Gz {L:List (List UInt8)} (h:L.all j6=true):aL (pI L)=L∧lW (pI L)=true∧(L≠[]→pI L≠[47]):=by
 cases L with
 |nil=>exact ⟨rfl,rfl,fun h=>absurd rfl h⟩
 |cons a L=>
  have ha:=Qh (List.all_eq_true.1 h a (by simp))
  have hm:pI (a::L)=47::(a++L.flatMap ((47:UInt8)::·)):=by simp [pI]
  have cT:pI (a::L)≠[47]:=by
   rw [hm];intro e
   have:a++L.flatMap ((47:UInt8)::·)=[]:=by simpa using e
   exact ha.2 (List.append_eq_nil_iff.1 this).1
  refine ⟨?_,by rw [hm];simp [lW],fun _=>cT⟩
  unfold aL
  rw [if_neg cT]
  have:=OT (c:=47) (L:=a::L) (by simp) (fun x hx=>(Qh (List.all_eq_true.1 h x hx)).1)
  simpa [pI] using this
end Dn.S
