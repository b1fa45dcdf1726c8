import Derived.Test.YteakdlhhamgfbaaDoorDnPPath3
/-
  Paths: below, ahead, joined; PathOrder, PathJoins, PathMade. Conditions: none.
-/
open Go Dn
set_option linter.unusedVariables false
set_option linter.unusedSimpArgs false
namespace Dn.S
theorem qu (a:List UInt8):Op.bytesLess a a=false:=by
 induction a with
 |nil=>rfl
 |cons x a ih=>simp [Op.bytesLess,ih]
theorem Ek {a b c:List UInt8} (h1:Op.bytesLess a b=true) (h2:Op.bytesLess b c=true):Op.bytesLess a c=true:=by
 induction a generalizing b c with
 |nil=>
  cases b with
  |nil=>simp [Op.bytesLess] at h1
  |cons y b=>cases c with
   |nil=>simp [Op.bytesLess] at h2
   |cons z c=>rfl
 |cons x a ih=>
  cases b with
  |nil=>simp [Op.bytesLess] at h1
  |cons y b=>
   cases c with
   |nil=>simp [Op.bytesLess] at h2
   |cons z c=>
    simp only [Op.bytesLess,Bool.or_eq_true,decide_eq_true_eq,Bool.and_eq_true,beq_iff_eq,UInt8.lt_iff_toNat_lt] at h1 h2⊢
    rcases h1 with h1|⟨rfl,h1⟩
    ·rcases h2 with h2|⟨rfl,h2⟩
     ·exact .inl (by omega)
     ·exact .inl h1
    ·rcases h2 with h2|⟨rfl,h2⟩
     ·exact .inl h2
     ·exact .inr ⟨rfl,ih h1 h2⟩
def qv:List (List UInt8)→List (List UInt8)→Bool
 |[],[]=>false
 |[],_::_=>true
 |_::_,[]=>false
 |a::x,b::y=>Op.bytesLess a b||(decide (a=b)&&qv x y)
theorem zV (a x y:List (List UInt8)):qv (a++x) (a++y)=qv x y:=by
 induction a with
 |nil=>rfl
 |cons z a ih=>simp [qv,qu,ih]
def jY (a b:List (List UInt8)):Bool:=decide (a.length<b.length)&&decide (a=b.take a.length)
theorem Lp {a b c:List (List UInt8)} (h1:qv a b=true) (h2:qv b c=true) (h3:jY a c=true):jY a b=true:=by
 induction a generalizing b c with
 |nil=>
  cases b with
  |nil=>simp [qv] at h1
  |cons y b=>simp [jY]
 |cons x a ih=>
  cases c with
  |nil=>simp [jY] at h3
  |cons z c=>
   cases b with
   |nil=>simp [qv] at h1
   |cons y b=>
    have Gk:x=z∧jY a c=true:=by
     simp only [jY,List.length_cons,List.take_succ_cons,List.cons.injEq,Bool.and_eq_true,decide_eq_true_eq] at h3
     exact ⟨h3.2.1,by simp only [jY,Bool.and_eq_true,decide_eq_true_eq];exact ⟨by omega,h3.2.2⟩⟩
    obtain ⟨rfl,Gk⟩:=Gk
    simp only [qv,Bool.or_eq_true,decide_eq_true_eq,Bool.and_eq_true] at h1 h2
    have CR:x=y∧qv a b=true∧qv b c=true:=by
     rcases h1 with h1|⟨rfl,h1⟩
     ·rcases h2 with h2|⟨rfl,h2⟩
      ·have:=Ek h1 h2;rw [qu] at this;cases this
      ·rw [qu] at h1;cases h1
     ·rcases h2 with h2|⟨_,h2⟩
      ·rw [qu] at h2;cases h2
      ·exact ⟨rfl,h1,h2⟩
    obtain ⟨rfl,g1,g2⟩:=CR
    have:=ih g1 g2 Gk
    simp only [jY,List.length_cons,List.take_succ_cons,List.cons.injEq,Bool.and_eq_true,decide_eq_true_eq] at this⊢
    exact ⟨by omega,trivial,this.2⟩
theorem cmp_eq (x y:List UInt8):ch x y=some (if Op.bytesLess x y then-1 else if x=y then 0 else 1):=by
 unfold ch cI
 simp only [decide_true,Bool.not_true,bY,Bool.false_eq_true,if_false]
 by_cases h:Op.bytesLess x y=true
 ·simp [h]
 ·by_cases he:x=y
  ·simp [he,qu]
  ·simp [h,he]
theorem ze (a b:List (List UInt8)) (hl:a.length<2^60): ∃n,bG a b=some n∧decide (n<0)=qv a b:=by
 obtain ⟨r,e,hr⟩: ∃r,Loop (bt a b) 0=some r∧(match r with| .inl ()=>qv a b=decide (a.length<b.length)| .inr n=>decide (n<0)=qv a b):=by
  refine bQ.count (fun k=>(k:Int)) a.length (fun k=>a.take k=b.take k∧k≤b.length) rfl ⟨rfl,by omega⟩ (fun k hk hp=> ?_) (fun hp=> ?_)
  ·have dJ:qv a b=qv (a.drop k) (b.drop k):=by
    have:=zV (a.take k) (a.drop k) (b.drop k)
    rw [List.take_append_drop,hp.1,List.take_append_drop] at this
    exact this
   have Lj:a.drop k=a[k]::a.drop (k+1):=List.drop_eq_getElem_cons hk
   unfold bt
   rw [if_pos (by omega),gy hk]
   by_cases hb:b.length≤k
   ·rw [if_pos (by omega)]
    refine .mk ?_
    show decide ((1:Int)<0)=qv a b
    rw [dJ,Lj,List.drop_eq_nil_of_le hb];rfl
   ·have hb:k<b.length:=by omega
    have QG:b.drop k=b[k]::b.drop (k+1):=List.drop_eq_getElem_cons hb
    rw [if_neg (by omega),gy hb,cmp_eq,bY]
    rw [Lj,QG] at dJ
    simp only [qv] at dJ
    by_cases h1:Op.bytesLess a[k] b[k]=true
    ·simp only [h1,if_true]
     refine .mk ?_
     show decide ((-1:Int)<0)=qv a b
     rw [dJ,h1];rfl
    ·rw [Bool.not_eq_true] at h1
     by_cases h2:a[k]=b[k]
     ·have hc:(if Op.bytesLess a[k] b[k]=true then (-1:Int) else if a[k]=b[k] then 0 else 1)=0:=by rw [h1,if_neg (by decide),if_pos h2]
      rw [hc,if_neg (by decide)]
      rw [wrap64 (by omega) (by omega)]
      refine .mk ⟨by omega,?_,by omega⟩
      rw [take_succ hk,take_succ hb,hp.1,h2]
     ·simp only [h1,Bool.false_eq_true,if_false,h2]
      refine .mk ?_
      show decide ((1:Int)<0)=qv a b
      rw [dJ,h1];simp [h2]
  ·unfold bt
   rw [if_neg (by omega)]
   refine .mk ?_
   show qv a b=decide (a.length<b.length)
   have:=zV (a.take a.length) (a.drop a.length) (b.drop a.length)
   rw [List.take_append_drop,hp.1,List.take_append_drop,List.drop_length] at this
   rw [this]
   cases hd:b.drop a.length with
   |nil=>
    have:=congrArg List.length hd
    rw [List.length_drop] at this
    symm;apply decide_eq_false;simp at this;omega
   |cons x y=>
    have:=congrArg List.length hd
    rw [List.length_drop] at this
    symm;apply decide_eq_true;simp at this;omega
 unfold bG
 rw [e,bY]
 cases r with
 |inl u=>
  dsimp only at hr⊢
  rw [hr]
  by_cases h:a.length<b.length
  ·rw [if_pos (by omega)];exact ⟨_,rfl,by simp [h]⟩
  ·rw [if_neg (by omega)];exact ⟨_,rfl,by simp [h]⟩
 |inr n=>exact ⟨n,rfl,hr⟩
theorem nS (p:List UInt8): ∃l,cH p=some (l,bL p)∧(bL p=true→l=ba p):=by
 rw [xI]
 unfold bL
 cases fV p&&decide (p.length≤100) with
 |false=>exact ⟨_,rfl,fun h=>by cases h⟩
 |true=>exact ⟨_,rfl,fun _=>rfl⟩
def v8 (p q:List UInt8):Bool:=bL p&&(bL q&&qv (ba p) (ba q))
def wa (p q:List UInt8):Bool:=bL p&&(bL q&&jY (ba p) (ba q))
theorem El (p q:List UInt8):eP p q=some (v8 p q):=by
 unfold eP
 obtain ⟨l,e1,h1⟩:=nS p
 obtain ⟨m,e2,h2⟩:=nS q
 rw [e1,bY,e2,bY,td]
 unfold v8
 cases hp:bL p with
 |false=>rfl
 |true=>
  cases hq:bL q with
  |false=>rfl
  |true=>
   rw [h1 hp,h2 hq]
   obtain ⟨n,e3,h3⟩:=ze (ba p) (ba q) (by have:=(eV hp).2.2.1;omega)
   simp only [if_true,e3,bY,h3,Bool.true_and]
theorem Bm (a b:List (List UInt8)) (hl:a.length<2^60):cU a b=some (decide (a=b)):=by
 unfold cU
 by_cases he:a.length=b.length
 ·have:decide ((a.length:Int)=(b.length:Int))=true:=decide_eq_true (by omega)
  rw [this]
  simp only [Bool.not_true,Bool.false_eq_true,if_false]
  rw [Bi he (fun k ha hb=>by
   unfold dj
   rw [if_pos (by omega),gy ha,gy hb,wrap64 (by omega) (by omega)]
   by_cases hh:a[k]=b[k]<;>simp [hh]) (by
   unfold dj
   rw [if_neg (by omega)]),bY]
  by_cases Iw:a=b<;>simp [Iw]
 ·have:decide ((a.length:Int)=(b.length:Int))=false:=decide_eq_false (by omega)
  rw [this]
  have Iw:a≠b:=fun e=>he (by rw [e])
  simp [Iw]
theorem Em (p q:List UInt8):jL p q=some (wa p q):=by
 unfold jL
 obtain ⟨l,e1,h1⟩:=nS p
 obtain ⟨m,e2,h2⟩:=nS q
 rw [e1,bY,e2,bY,td]
 unfold wa
 cases hp:bL p with
 |false=>rfl
 |true=>
  cases hq:bL q with
  |false=>rfl
  |true=>
   rw [h1 hp,h2 hq]
   simp only [if_true,Bool.true_and,jY]
   by_cases dJ:(ba p).length<(ba q).length
   ·rw [if_pos (by omega),if_pos ⟨by decide,by omega,by omega⟩]
    simp only [Int.toNat_zero,List.drop_zero,Int.toNat_natCast]
    rw [Bm _ _ (by have:=(eV hp).2.2.1;omega),bY]
    simp [dJ]
   ·rw [if_neg (by omega)]
    simp [dJ]
theorem wb {x:List UInt8} (h:dr x=true):(47:UInt8)∉x∧x≠[]:=by
 unfold dr at h
 simp only [Bool.and_eq_true,decide_eq_true_eq] at h
 refine ⟨fun hm=> ?_,h.1⟩
 have:=List.all_eq_true.1 h.2.2 _ hm
 exact absurd this (by decide)
theorem zf {L:List (List UInt8)} (h:L.all dr=true):ba (mB L)=L∧fV (mB L)=true∧(L≠[]→mB L≠[47]):=by
 cases L with
 |nil=>exact ⟨rfl,rfl,fun h=>absurd rfl h⟩
 |cons a L=>
  have ha:=wb (List.all_eq_true.1 h a (by simp))
  have hm:mB (a::L)=47::(a++L.flatMap ((47:UInt8)::·)):=by simp [mB]
  have b7:mB (a::L)≠[47]:=by
   rw [hm];intro e
   have:a++L.flatMap ((47:UInt8)::·)=[]:=by simpa using e
   exact ha.2 (List.append_eq_nil_iff.1 this).1
  refine ⟨?_,by rw [hm];simp [fV],fun _=>b7⟩
  unfold ba
  rw [if_neg b7]
  have:=y9 (c:=47) (L:=a::L) (by simp) (fun x hx=>(wb (List.all_eq_true.1 h x hx)).1)
  simpa [mB] using this
def iQ (p name:List UInt8):List UInt8:=(if p.getLast? =some 47 then p.dropLast else p)++[47]++name
theorem Bn {p:List UInt8} (hp:p≠[]):List.drop (p.length-1) p=[p.getLast hp]:=by
 have h:=List.dropLast_concat_getLast hp
 have hl:p.dropLast.length=p.length-1:=List.length_dropLast
 have:List.drop p.dropLast.length (p.dropLast++[p.getLast hp])=[p.getLast hp]:=List.drop_left
 rw [h,hl] at this
 exact this
theorem tW (p:List UInt8) (hl:p.length<2^60):cV p ([47]:List UInt8)=some (if p.getLast? =some 47 then p.dropLast else p):=by
 unfold cV cM c3
 simp only [td]
 have h1:((([47]:List UInt8).length:Nat):Int)=1:=rfl
 rw [h1]
 by_cases hp:p=[]
 ·subst hp;rfl
 ·have ek:1≤p.length:=by cases p with|nil=>exact absurd rfl hp|cons=>simp
  rw [if_pos (by omega),wrap64 (by omega) (by omega),if_pos ⟨by omega,by omega,by omega⟩,bY]
  have e1:((p.length:Int)-1).toNat=p.length-1:=by omega
  rw [e1,Int.toNat_natCast,List.take_length]
  have e2:List.drop (p.length-1) p=[p.getLast hp]:=Bn hp
  rw [e2]
  by_cases hx:p.getLast hp=47
  ·have Am:p.getLast? =some 47:=by rw [List.getLast?_eq_some_getLast hp,hx]
   rw [if_pos Am,hx]
   simp only [decide_true,if_true]
   rw [if_pos ⟨by decide,by omega,by omega⟩]
   simp [List.dropLast_eq_take]
  ·have Am: ¬p.getLast? =some 47:=by rw [List.getLast?_eq_some_getLast hp];simpa using hx
   rw [if_neg Am]
   simp [hx]
theorem join_eq (p name:List UInt8) (h1:p.length≤1000) (h2:name.length≤1000):
 lu p name=some (if bL p&&(dr name&&bL (iQ p name)) then (iQ p name,0) else ([],13)):=by
 unfold lu
 rw [tW p (by omega),bY]
 have hle:(if p.getLast? =some 47 then p.dropLast else p).length≤1000:=by split<;>first|omega|(rw [List.length_dropLast];omega)
 have hj:iQ p name=(if p.getLast? =some 47 then p.dropLast else p)++[47]++name:=rfl
 rw [hj]
 generalize (if p.getLast? =some 47 then p.dropLast else p)=q at hle
 rw [if_pos (by simp only [List.length_cons,List.length_nil];omega),if_pos (by simp only [List.length_append,List.length_cons,List.length_nil];omega)]
 rw [xJ,bY,uW,xJ]
 cases bL p<;>cases dr name<;>cases bL (q++[47]++name)<;>rfl
theorem zW {p:List UInt8} (h:fV p=true) (hn:(ba p).all dr=true) (name:List UInt8):iQ p name=(ba p++[name]).flatMap ((47:UInt8)::·):=by
 by_cases hp:p=[47]
 ·subst hp;simp [iQ,ba]
 ·obtain ⟨L,x,e1,e2,e3⟩:=Bl h hp
  rw [e1] at hn⊢
  have hx:=wb (List.all_eq_true.1 hn x (by simp))
  have sM: ¬p.getLast? =some 47:=by
   rw [e2,List.getLast?_append,List.getLast?_cons,List.getLast?_eq_some_getLast hx.2]
   simp only [Option.getD_some,Option.some_or,Option.some.injEq]
   intro e
   exact e3 (by rw [←e];exact List.getLast_mem _)
  unfold iQ
  rw [if_neg sM,List.flatMap_append,List.flatMap_append,e2]
  simp
theorem zg {p name:List UInt8} (hp:bL p=true) (hx:dr name=true):ba (iQ p name)=ba p++[name]∧fV (iQ p name)=true∧iQ p name=mB (ba p++[name])∧iQ p name≠[47]:=by
 obtain ⟨h1,h2,h3,h4⟩:=eV hp
 have iV:(ba p++[name]).all dr=true:=by simp [h4,hx]
 have e:iQ p name=mB (ba p++[name]):=by rw [zW h2 h4,mB,if_neg (by simp)]
 obtain ⟨g1,g2,g3⟩:=zf iV
 rw [e]
 exact ⟨g1,g2,rfl,g3 (by simp)⟩
end Dn.S
