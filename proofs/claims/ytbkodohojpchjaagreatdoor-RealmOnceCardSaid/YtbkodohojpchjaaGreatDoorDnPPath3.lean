import Derived.Test.YtbkodohojpchjaaGreatDoorDnPPath2
/-
  Paths: what the document says; PathTells. Conditions: none.
-/
open Go Dn
set_option linter.unusedVariables false
set_option linter.unusedSimpArgs false
namespace Dn.S
theorem xW (p:List UInt8):ng p=some (bm p):=by
 unfold ng
 by_cases hl:p.length≤100
 rotate_left
 ·rw [if_pos (by omega)];simp [bm,hl]
 rw [if_neg (by omega),Jh p (by omega),aA]
 have hle: ∀y∈(if lW p then aK p else []),y.length≤100:=by
  intro y hy
  split at hy
  ·unfold aK at hy
   split at hy
   ·simp at hy
   ·have:=MM _ y hy;rw [List.length_drop] at this;omega
  ·simp at hy
 have hlen:(if lW p then aK p else []).length≤101:=by
  split
  ·unfold aK
   split
   ·simp
   ·have:=wb (c:=47) (p.drop 1);rw [List.length_drop] at this;omega
  ·simp
 generalize hL:(if lW p then aK p else [])=L at hle hlen
 obtain ⟨r,e,hr⟩:=nP (body:=pk (L,lW p)) L.length (fun k=>kb (L.getD k [])=true) false (fun k hk _=>by
  have hg:L.getD k []=L[k]:=by rw [List.getD_eq_getElem?_getD,List.getElem?_eq_getElem hk];rfl
  unfold pk
  dsimp only
  rw [if_pos (by omega),bt hk,KK _ (by have:=hle _ (List.getElem_mem hk);omega),aA,hg]
  constructor
  ·intro h;rw [h];simp only [Bool.not_true,Bool.false_eq_true,if_false];rw [wrap64 (by omega) (by omega)];rfl
  ·intro h;rw [Bool.not_eq_true] at h;rw [h];rfl) (by
  unfold pk
  dsimp only
  rw [if_neg (by omega)])
 rw [e,aA]
 have mb:(∀k,k<L.length→kb (L.getD k [])=true)↔L.all kb=true:=by
  rw [List.all_eq_true]
  constructor
  ·intro h x hx
   obtain ⟨k,hk,rfl⟩:=List.mem_iff_getElem.1 hx
   have:=h k hk
   rwa [List.getD_eq_getElem?_getD,List.getElem?_eq_getElem hk] at this
  ·intro h k hk
   rw [List.getD_eq_getElem?_getD,List.getElem?_eq_getElem hk]
   exact h _ (List.getElem_mem hk)
 unfold bm
 cases ha:lW p with
 |false=>
  rcases hr with ⟨rfl,h⟩|⟨rfl,k,hk,h⟩<;>simp [aA]
 |true=>
  rw [ha] at hL
  simp only [if_true] at hL
  rw [hL]
  rcases hr with ⟨rfl,h⟩|⟨rfl,k,hk,h⟩
  ·have h:=mb.1 h
   simp only [if_true,aA,Gt,h,hl,decide_true,Bool.and_true,Bool.true_and,Option.some.injEq,decide_eq_decide]
   omega
  ·have:L.all kb=false:=by
    rw [Bool.eq_false_iff];intro hh;exact h (mb.2 hh k hk)
   simp [this]
theorem ea {p:List UInt8} (h:bm p=true):p.length≤100∧lW p=true∧(aK p).length≤8∧(aK p).all kb=true:=by
 unfold bm at h
 simp only [Bool.and_eq_true,decide_eq_true_eq] at h
 exact ⟨h.1.2,h.1.1,h.2.1,h.2.2⟩
theorem xX (p:List UInt8):oo p=some (if bm p then (aK p,0) else ([],13)):=by
 unfold oo
 rw [xW,aA]
 cases h:bm p with
 |false=>simp
 |true=>
  obtain ⟨h1,h2,_⟩:=ea h
  simp only [Bool.not_true,Bool.false_eq_true,if_false,if_true]
  rw [Jh p (by omega),aA,h2]
  rfl
def pP (l:List (List UInt8)):List UInt8:=if l=[] then [47] else l.flatMap (47::·)
theorem ZC (l:List (List UInt8)) (h1:(l.flatMap ((47:UInt8)::·)).length≤2^40) (h2:l.length<2^60):xz l=some (pP l):=by
 have fW:Loop (rl l) (([]:List UInt8),0)=some (l.flatMap ((47:UInt8)::·)):=by
  refine bu.eq (bu.count (fun k=>((l.take k).flatMap ((47:UInt8)::·),(k:Int))) l.length (fun _=>True) rfl trivial (fun k hk _=> ?_) (fun _=> ?_))
  ·unfold rl
   dsimp only
   have Yd:(l.take (k+1)).flatMap ((47:UInt8)::·)=(l.take k).flatMap ((47:UInt8)::·)++[47]++l[k]:=by
    rw [take_succ hk,List.flatMap_append];simp
   have ag4:((l.take (k+1)).flatMap ((47:UInt8)::·)).length≤(l.flatMap ((47:UInt8)::·)).length:=by
    have:l.flatMap ((47:UInt8)::·)=(l.take (k+1)).flatMap ((47:UInt8)::·)++(l.drop (k+1)).flatMap ((47:UInt8)::·):=by
     rw [←List.flatMap_append,List.take_append_drop]
    rw [this,List.length_append];omega
   rw [Yd] at ag4
   simp only [List.length_append,List.length_cons,List.length_nil] at ag4
   rw [if_pos (by omega),if_pos (by simp only [List.length_cons,List.length_nil];omega),bt hk,if_pos (by simp only [List.length_append,List.length_cons,List.length_nil];omega),wrap64 (by omega) (by omega)]
   refine .mk ⟨?_,trivial⟩
   rw [Yd]
   rfl
  ·unfold rl
   dsimp only
   rw [if_neg (by omega),List.take_length]
   exact .mk rfl
 unfold xz
 rw [fW,aA]
 unfold pP
 cases l with
 |nil=>rfl
 |cons a l=>simp
theorem KN {a b:List UInt8} (hb:(47:UInt8)∉b) (hl:(a++47::b).length<2^60):im (a++47::b) ([47]:List UInt8)=some (a.length:Int):=by
 have fW:Loop (dL (a++47::b) 47) (((a++47::b).length-1:Nat):Int)=some (.inr (a.length:Int)):=by
  refine bu.eq (bu.loop (fun st=> ∃i:Nat,st=(i:Int)∧a.length≤i∧i<(a++47::b).length) (fun st=>st.toNat) ⟨_,rfl,by simp,by simp⟩ ?_)
  rintro st ⟨i,rfl,h1,h2⟩
  unfold dL
  rw [if_pos (by omega),if_pos ⟨by omega,by omega⟩]
  have hg:(a++47::b).getD (Int.toNat (i:Int)) 0=(a++47::b)[i]:=by
   rw [Int.toNat_natCast,List.getD_eq_getElem?_getD,List.getElem?_eq_getElem h2];rfl
  rw [hg]
  by_cases hi:i=a.length
  ·subst hi
   rw [List.getElem_append_right (by omega)]
   simp
   exact .mk rfl
  ·have db:(a++47::b)[i]≠47:=by
    obtain ⟨j,hj⟩: ∃j,i=a.length+(j+1):=⟨i-a.length-1,by omega⟩
    subst hj
    rw [List.getElem_append_right (by omega)]
    simp only [Nat.add_sub_cancel_left,List.getElem_cons_succ]
    intro e
    apply hb
    rw [←e]
    exact List.getElem_mem _
   have YK: ¬((((a++47::b)[i]).toNat:Int)=47):=by
    intro e;apply db;apply UInt8.toNat_inj.1
    show _=47
    omega
   rw [if_neg YK,wrap64 (by omega) (by omega)]
   exact .mk ⟨⟨i-1,by omega,by omega,by omega⟩,by omega⟩
 unfold im
 rw [if_neg (by decide),if_pos (by decide),if_pos (by decide)]
 have h47:(((([47]:List UInt8).getD (Int.toNat 0) 0).toNat:Nat):Int)=47:=by decide
 rw [h47]
 unfold ei
 have hlen:((a++47::b).length:Int)-1=(((a++47::b).length-1:Nat):Int):=by simp;omega
 rw [hlen,wrap64 (by omega) (by omega),fW]
 rfl
theorem Gy {p:List UInt8} (h:lW p=true): ∃r,p=47::r:=by
 cases p with
 |nil=>simp [lW] at h
 |cons x r=>exact ⟨r,by rw [show x=47 by simpa [lW] using h]⟩
theorem Ji {p:List UInt8} (h:lW p=true) (h1:p≠[47]): ∃L x,aK p=L++[x]∧p=L.flatMap ((47:UInt8)::·)++47::x∧(47:UInt8)∉x:=by
 obtain ⟨r,rfl⟩:=Gy h
 have hn:aK (47::r)=bT 47 r:=by simp [aK,h1]
 have J7:=nQ (qT (c:=47) r)
 refine ⟨_,_,by rw [hn];exact J7.symm,?_,Wo r _ (by rw [←J7];simp)⟩
 have:=An (c:=47) r
 rw [←J7,List.flatMap_append] at this
 simpa using this.symm
theorem Jj (p:List UInt8):ni p=some (if bm p then (if p=[47] then ([],6) else (pP (aK p).dropLast,0)) else ([],13)):=by
 unfold ni
 rw [uN,aA]
 cases h:bm p with
 |false=>simp
 |true=>
  obtain ⟨h1,h2,h3,h4⟩:=ea h
  simp only [Bool.not_true,Bool.false_eq_true,if_false,if_true]
  by_cases hp:p=[47]
  ·rw [if_pos hp,if_pos hp]
  ·rw [if_neg hp,if_neg hp]
   obtain ⟨L,x,e1,e2,e3⟩:=Ji h2 hp
   rw [e1,List.dropLast_concat]
   rw [e2] at h1⊢
   rw [KN e3 (by omega),aA]
   generalize hJ:L.flatMap ((47:UInt8)::·)=J at h1
   have hm:imax 1 (J.length:Int)=((max 1 J.length:Nat):Int):=by unfold imax;split<;>omega
   have hle:max 1 J.length≤(J++47::x).length:=by simp;omega
   rw [hm,if_pos ⟨by decide,by omega,by omega⟩]
   simp only [Int.toNat_natCast,Int.toNat_zero,List.drop_zero,Option.some.injEq,Prod.mk.injEq,and_true]
   unfold pP
   cases L with
   |nil=>simp at hJ;subst hJ;simp
   |cons a L=>
    rw [if_neg (by simp),hJ]
    have eD:1≤J.length:=by rw [←hJ];simp
    rw [Nat.max_eq_right eD,List.take_left']
    rfl
theorem yP {p:List UInt8} (h:bm p=true):((aK p).length=0↔p=[47]):=by
 obtain ⟨h1,h2,h3,h4⟩:=ea h
 constructor
 ·intro h0
  by_cases hp:p=[47]
  ·exact hp
  ·obtain ⟨L,x,e1,_⟩:=Ji h2 hp
   rw [e1] at h0;simp at h0
 ·intro hp;simp [aK,hp]
theorem Wq {p:List UInt8} (h:lW p=true) (k:Nat):(((aK p).take k).flatMap ((47:UInt8)::·)).length≤p.length:=by
 by_cases hp:p=[47]
 ·subst hp;simp [aK]
 ·obtain ⟨r,rfl⟩:=Gy h
  have hn:aK (47::r)=bT 47 r:=by simp [aK,hp]
  have:=An (c:=47) r
  rw [hn]
  rw [←List.take_append_drop k (bT 47 r),List.flatMap_append] at this
  rw [←this,List.length_append];omega
theorem KO (p:List UInt8):oq p=some (if bm p then (if p=[47] then ([],6) else (pP (aK p).dropLast,0)) else ([],13)):=by
 unfold oq
 rw [xX,aA]
 cases h:bm p with
 |false=>simp
 |true=>
  obtain ⟨h1,h2,h3,h4⟩:=ea h
  simp only [if_true,decide_true,Bool.not_true,Bool.false_eq_true,if_false]
  by_cases hp:p=[47]
  ·rw [if_pos hp,if_pos (by rw [(yP h).2 hp];rfl)]
  ·have db: ¬(aK p).length=0:=fun e=>hp ((yP h).1 e)
   rw [if_neg hp,if_neg (by omega),wrap64 (by omega) (by omega),if_pos ⟨by decide,by omega,by omega⟩]
   have e1:(((aK p).length:Int)-1).toNat=(aK p).length-1:=by omega
   simp only [Int.toNat_zero,List.drop_zero,e1]
   rw [←List.dropLast_eq_take]
   rw [ZC _ (by rw [List.dropLast_eq_take];have:=Wq h2 ((aK p).length-1);omega) (by simp;omega),aA]
theorem Pe (a b:List (List UInt8)) (hl:a.length<2^60):pC a b=some (decide (a=b)):=by
 unfold pC
 by_cases he:a.length=b.length
 ·have:decide ((a.length:Int)=(b.length:Int))=true:=decide_eq_true (by omega)
  rw [this]
  simp only [Bool.not_true,Bool.false_eq_true,if_false]
  rw [yO he (fun k ha hb=>by
   unfold oV
   rw [if_pos (by omega),bt ha,bt hb,wrap64 (by omega) (by omega)]
   by_cases hh:a[k]=b[k]<;>simp [hh]) (by
   unfold oV
   rw [if_neg (by omega)]),aA]
  by_cases O9:a=b<;>simp [O9]
 ·have:decide ((a.length:Int)=(b.length:Int))=false:=decide_eq_false (by omega)
  rw [this]
  have O9:a≠b:=fun e=>he (by rw [e])
  simp [O9]
end Dn.S
