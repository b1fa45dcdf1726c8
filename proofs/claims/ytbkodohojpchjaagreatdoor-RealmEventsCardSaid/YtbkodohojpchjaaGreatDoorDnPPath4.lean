import Derived.Test.YtbkodohojpchjaaGreatDoorDnPPath3
/-
  Paths: below, ahead, joined; PathOrder, PathJoins, PathMade. Conditions: none.
-/
open Go Dn
set_option linter.unusedVariables false
set_option linter.unusedSimpArgs false
namespace Dn.S
theorem Ak (a:List UInt8):Op.bytesLess a a=false:=by
 induction a with
 |nil=>rfl
 |cons x a ih=>simp [Op.bytesLess,ih]
theorem Yx (a b:List UInt8):Op.bytesLess a b=true∨a=b∨Op.bytesLess b a=true:=by
 induction a generalizing b with
 |nil=>cases b<;>simp [Op.bytesLess]
 |cons x a ih=>
  cases b with
  |nil=>simp [Op.bytesLess]
  |cons y b=>
   simp only [Op.bytesLess,Bool.or_eq_true,decide_eq_true_eq,Bool.and_eq_true,beq_iff_eq,List.cons.injEq]
   rcases Nat.lt_trichotomy x.toNat y.toNat with h|h|h
   ·exact .inl (.inl (UInt8.lt_iff_toNat_lt.2 h))
   ·have JZ:=UInt8.toNat_inj.1 h
    subst JZ
    rcases ih b with h|h|h
    ·exact .inl (.inr ⟨rfl,h⟩)
    ·exact .inr (.inl ⟨rfl,h⟩)
    ·exact .inr (.inr (.inr ⟨rfl,h⟩))
   ·exact .inr (.inr (.inl (UInt8.lt_iff_toNat_lt.2 h)))
theorem Jz {a b c:List UInt8} (h1:Op.bytesLess a b=true) (h2:Op.bytesLess b c=true):Op.bytesLess a c=true:=by
 induction a generalizing b c with
 |nil=>
  cases b with
  |nil=>simp [Op.bytesLess] at h1
  |cons y b=>cases c with
   |nil=>simp [Op.bytesLess] at h2
   |cons z c=>rfl
 |cons x a ih=>
  cases b with
  |nil=>simp [Op.bytesLess] at h1
  |cons y b=>
   cases c with
   |nil=>simp [Op.bytesLess] at h2
   |cons z c=>
    simp only [Op.bytesLess,Bool.or_eq_true,decide_eq_true_eq,Bool.and_eq_true,beq_iff_eq,UInt8.lt_iff_toNat_lt] at h1 h2⊢
    rcases h1 with h1|⟨rfl,h1⟩
    ·rcases h2 with h2|⟨rfl,h2⟩
     ·exact .inl (by omega)
     ·exact .inl h1
    ·rcases h2 with h2|⟨rfl,h2⟩
     ·exact .inl h2
     ·exact .inr ⟨rfl,ih h1 h2⟩
def oR:List (List UInt8)→List (List UInt8)→Bool
 |[],[]=>false
 |[],_::_=>true
 |_::_,[]=>false
 |a::x,b::y=>Op.bytesLess a b||(decide (a=b)&&oR x y)
theorem zm (a:List (List UInt8)):oR a a=false:=by
 induction a with
 |nil=>rfl
 |cons x a ih=>simp [oR,Ak,ih]
theorem U9 (a b:List (List UInt8)):oR a b=true∨a=b∨oR b a=true:=by
 induction a generalizing b with
 |nil=>cases b<;>simp [oR]
 |cons x a ih=>
  cases b with
  |nil=>simp [oR]
  |cons y b=>
   simp only [oR,Bool.or_eq_true,decide_eq_true_eq,Bool.and_eq_true,List.cons.injEq]
   rcases Yx x y with h|rfl|h
   ·exact .inl (.inl h)
   ·rcases ih b with h|h|h
    ·exact .inl (.inr ⟨rfl,h⟩)
    ·exact .inr (.inl ⟨rfl,h⟩)
    ·exact .inr (.inr (.inr ⟨rfl,h⟩))
   ·exact .inr (.inr (.inl h))
theorem Gg {a b c:List (List UInt8)} (h1:oR a b=true) (h2:oR b c=true):oR a c=true:=by
 induction a generalizing b c with
 |nil=>
  cases b with
  |nil=>simp [oR] at h1
  |cons y b=>cases c with
   |nil=>simp [oR] at h2
   |cons z c=>rfl
 |cons x a ih=>
  cases b with
  |nil=>simp [oR] at h1
  |cons y b=>
   cases c with
   |nil=>simp [oR] at h2
   |cons z c=>
    simp only [oR,Bool.or_eq_true,decide_eq_true_eq,Bool.and_eq_true] at h1 h2⊢
    rcases h1 with h1|⟨rfl,h1⟩
    ·rcases h2 with h2|⟨rfl,h2⟩
     ·exact .inl (Jz h1 h2)
     ·exact .inl h1
    ·rcases h2 with h2|⟨rfl,h2⟩
     ·exact .inl h2
     ·exact .inr ⟨rfl,ih h1 h2⟩
theorem HE (a x y:List (List UInt8)):oR (a++x) (a++y)=oR x y:=by
 induction a with
 |nil=>rfl
 |cons z a ih=>simp [oR,Ak,ih]
def iy (a b:List (List UInt8)):Bool:=decide (a.length<b.length)&&decide (a=b.take a.length)
theorem Si {a b:List (List UInt8)} (h:iy a b=true):oR a b=true:=by
 unfold iy at h
 simp only [Bool.and_eq_true,decide_eq_true_eq] at h
 have hb:b=a++b.drop a.length:=by
  have:=List.take_append_drop a.length b
  rw [←h.2] at this;exact this.symm
 have hd:b.drop a.length≠[]:=by
  intro e
  have:=congrArg List.length e
  rw [List.length_drop] at this;simp at this;omega
 rw [hb]
 have:=HE a [] (b.drop a.length)
 rw [List.append_nil] at this
 rw [this]
 cases hq:b.drop a.length with
 |nil=>exact absurd hq hd
 |cons=>rfl
theorem Va {a b c:List (List UInt8)} (h1:oR a b=true) (h2:oR b c=true) (h3:iy a c=true):iy a b=true:=by
 induction a generalizing b c with
 |nil=>
  cases b with
  |nil=>simp [oR] at h1
  |cons y b=>simp [iy]
 |cons x a ih=>
  cases c with
  |nil=>simp [iy] at h3
  |cons z c=>
   cases b with
   |nil=>simp [oR] at h1
   |cons y b=>
    have VK:x=z∧iy a c=true:=by
     simp only [iy,List.length_cons,List.take_succ_cons,List.cons.injEq,Bool.and_eq_true,decide_eq_true_eq] at h3
     exact ⟨h3.2.1,by simp only [iy,Bool.and_eq_true,decide_eq_true_eq];exact ⟨by omega,h3.2.2⟩⟩
    obtain ⟨rfl,VK⟩:=VK
    simp only [oR,Bool.or_eq_true,decide_eq_true_eq,Bool.and_eq_true] at h1 h2
    have JZ:x=y∧oR a b=true∧oR b c=true:=by
     rcases h1 with h1|⟨rfl,h1⟩
     ·rcases h2 with h2|⟨rfl,h2⟩
      ·have:=Jz h1 h2;rw [Ak] at this;cases this
      ·rw [Ak] at h1;cases h1
     ·rcases h2 with h2|⟨_,h2⟩
      ·rw [Ak] at h2;cases h2
      ·exact ⟨rfl,h1,h2⟩
    obtain ⟨rfl,g1,g2⟩:=JZ
    have:=ih g1 g2 VK
    simp only [iy,List.length_cons,List.take_succ_cons,List.cons.injEq,Bool.and_eq_true,decide_eq_true_eq] at this⊢
    exact ⟨by omega,trivial,this.2⟩
theorem cmp_eq (x y:List UInt8):fY x y=some (if Op.bytesLess x y then-1 else if x=y then 0 else 1):=by
 unfold fY jj
 simp only [decide_true,Bool.not_true,aR,Bool.false_eq_true,if_false]
 by_cases h:Op.bytesLess x y=true
 ·simp [h]
 ·by_cases he:x=y
  ·simp [he,Ak]
  ·simp [h,he]
theorem Lt (a b:List (List UInt8)) (hl:a.length<2^60): ∃n,eJ a b=some n∧decide (n<0)=oR a b:=by
 obtain ⟨r,e,hr⟩: ∃r,Loop (dL a b) 0=some r∧(match r with| .inl ()=>oR a b=decide (a.length<b.length)| .inr n=>decide (n<0)=oR a b):=by
  refine bV.count (fun k=>(k:Int)) a.length (fun k=>a.take k=b.take k∧k≤b.length) rfl ⟨rfl,by omega⟩ (fun k hk hp=> ?_) (fun hp=> ?_)
  ·have dx:oR a b=oR (a.drop k) (b.drop k):=by
    have:=HE (a.take k) (a.drop k) (b.drop k)
    rw [List.take_append_drop,hp.1,List.take_append_drop] at this
    exact this
   have hda:a.drop k=a[k]::a.drop (k+1):=List.drop_eq_getElem_cons hk
   unfold dL
   rw [if_pos (by omega),cg hk]
   by_cases hb:b.length≤k
   ·rw [if_pos (by omega)]
    refine .mk ?_
    show decide ((1:Int)<0)=oR a b
    rw [dx,hda,List.drop_eq_nil_of_le hb];rfl
   ·have hb:k<b.length:=by omega
    have hdb:b.drop k=b[k]::b.drop (k+1):=List.drop_eq_getElem_cons hb
    rw [if_neg (by omega),cg hb,cmp_eq,aR]
    rw [hda,hdb] at dx
    simp only [oR] at dx
    by_cases h1:Op.bytesLess a[k] b[k]=true
    ·simp only [h1,if_true]
     refine .mk ?_
     show decide ((-1:Int)<0)=oR a b
     rw [dx,h1];rfl
    ·rw [Bool.not_eq_true] at h1
     by_cases h2:a[k]=b[k]
     ·have hc:(if Op.bytesLess a[k] b[k]=true then (-1:Int) else if a[k]=b[k] then 0 else 1)=0:=by rw [h1,if_neg (by decide),if_pos h2]
      rw [hc,if_neg (by decide)]
      rw [wrap64 (by omega) (by omega)]
      refine .mk ⟨by omega,?_,by omega⟩
      rw [take_succ hk,take_succ hb,hp.1,h2]
     ·simp only [h1,Bool.false_eq_true,if_false,h2]
      refine .mk ?_
      show decide ((1:Int)<0)=oR a b
      rw [dx,h1];simp [h2]
  ·unfold dL
   rw [if_neg (by omega)]
   refine .mk ?_
   show oR a b=decide (a.length<b.length)
   have:=HE (a.take a.length) (a.drop a.length) (b.drop a.length)
   rw [List.take_append_drop,hp.1,List.take_append_drop,List.drop_length] at this
   rw [this]
   cases hd:b.drop a.length with
   |nil=>
    have:=congrArg List.length hd
    rw [List.length_drop] at this
    symm;apply decide_eq_false;simp at this;omega
   |cons x y=>
    have:=congrArg List.length hd
    rw [List.length_drop] at this
    symm;apply decide_eq_true;simp at this;omega
 unfold eJ
 rw [e,aR]
 cases r with
 |inl u=>
  dsimp only at hr⊢
  rw [hr]
  by_cases h:a.length<b.length
  ·rw [if_pos (by omega)];exact ⟨_,rfl,by simp [h]⟩
  ·rw [if_neg (by omega)];exact ⟨_,rfl,by simp [h]⟩
 |inr n=>exact ⟨n,rfl,hr⟩
theorem wE (p:List UInt8): ∃l,fB p=some (l,bJ p)∧(bJ p=true→l=aM p):=by
 rw [DQ]
 unfold bJ
 cases rW p&&decide (p.length≤100) with
 |false=>exact ⟨_,rfl,fun h=>by cases h⟩
 |true=>exact ⟨_,rfl,fun _=>rfl⟩
def rX (p q:List UInt8):Bool:=bJ p&&(bJ q&&oR (aM p) (aM q))
def oS (p q:List UInt8):Bool:=bJ p&&(bJ q&&iy (aM p) (aM q))
theorem Sj (p q:List UInt8):pO p q=some (rX p q):=by
 unfold pO
 obtain ⟨l,e1,h1⟩:=wE p
 obtain ⟨m,e2,h2⟩:=wE q
 rw [e1,aR,e2,aR,Ju]
 unfold rX
 cases hp:bJ p with
 |false=>rfl
 |true=>
  cases hq:bJ q with
  |false=>rfl
  |true=>
   rw [h1 hp,h2 hq]
   obtain ⟨n,e3,h3⟩:=Lt (aM p) (aM q) (by have:=(fH hp).2.2.1;omega)
   simp only [if_true,e3,aR,h3,Bool.true_and]
theorem Gh (a b:List (List UInt8)) (hl:a.length<2^60):ej a b=some (decide (a=b)):=by
 unfold ej
 by_cases he:a.length=b.length
 ·have:decide ((a.length:Int)=(b.length:Int))=true:=decide_eq_true (by omega)
  rw [this]
  simp only [Bool.not_true,Bool.false_eq_true,if_false]
  rw [Ai he (fun k ha hb=>by
   unfold gd
   rw [if_pos (by omega),cg ha,cg hb,wrap64 (by omega) (by omega)]
   by_cases hh:a[k]=b[k]<;>simp [hh]) (by
   unfold gd
   rw [if_neg (by omega)]),aR]
  by_cases U7:a=b<;>simp [U7]
 ·have:decide ((a.length:Int)=(b.length:Int))=false:=decide_eq_false (by omega)
  rw [this]
  have U7:a≠b:=fun e=>he (by rw [e])
  simp [U7]
theorem JA (p q:List UInt8):lT p q=some (oS p q):=by
 unfold lT
 obtain ⟨l,e1,h1⟩:=wE p
 obtain ⟨m,e2,h2⟩:=wE q
 rw [e1,aR,e2,aR,Ju]
 unfold oS
 cases hp:bJ p with
 |false=>rfl
 |true=>
  cases hq:bJ q with
  |false=>rfl
  |true=>
   rw [h1 hp,h2 hq]
   simp only [if_true,Bool.true_and,iy]
   by_cases dx:(aM p).length<(aM q).length
   ·rw [if_pos (by omega),if_pos ⟨by decide,by omega,by omega⟩]
    simp only [Int.toNat_zero,List.drop_zero,Int.toNat_natCast]
    rw [Gh _ _ (by have:=(fH hp).2.2.1;omega),aR]
    simp [dx]
   ·rw [if_neg (by omega)]
    simp [dx]
theorem yb {p:List UInt8} (h:rW p=true):rq (aM p)=p:=by
 by_cases hp:p=[47]
 ·subst hp;rfl
 ·obtain ⟨r,rfl⟩:=Jy h
  have hn:aM (47::r)=du 47 r:=by simp [aM,hp]
  rw [hn,rq,if_neg (Aj r),DP]
theorem OD {p q:List UInt8} (hp:rW p=true) (hq:rW q=true) (h:aM p=aM q):p=q:=by
 rw [←yb hp,←yb hq,h]
theorem MO {x:List UInt8} (h:oh x=true):(47:UInt8)∉x∧x≠[]:=by
 unfold oh at h
 simp only [Bool.and_eq_true,decide_eq_true_eq] at h
 refine ⟨fun hm=> ?_,h.1⟩
 have:=List.all_eq_true.1 h.2.2 _ hm
 exact absurd this (by decide)
theorem DR {L:List (List UInt8)} (h:L.all oh=true):aM (rq L)=L∧rW (rq L)=true∧(L≠[]→rq L≠[47]):=by
 cases L with
 |nil=>exact ⟨rfl,rfl,fun h=>absurd rfl h⟩
 |cons a L=>
  have ha:=MO (List.all_eq_true.1 h a (by simp))
  have hm:rq (a::L)=47::(a++L.flatMap ((47:UInt8)::·)):=by simp [rq]
  have cG:rq (a::L)≠[47]:=by
   rw [hm];intro e
   have:a++L.flatMap ((47:UInt8)::·)=[]:=by simpa using e
   exact ha.2 (List.append_eq_nil_iff.1 this).1
  refine ⟨?_,by rw [hm];simp [rW],fun _=>cG⟩
  unfold aM
  rw [if_neg cG]
  have:=Lq (c:=47) (L:=a::L) (by simp) (fun x hx=>(MO (List.all_eq_true.1 h x hx)).1)
  simpa [rq] using this
end Dn.S
