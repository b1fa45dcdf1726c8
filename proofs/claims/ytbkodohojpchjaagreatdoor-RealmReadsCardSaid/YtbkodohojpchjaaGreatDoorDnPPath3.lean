import Derived.Test.YtbkodohojpchjaaGreatDoorDnPPath2
/-
  Paths: what the document says; PathTells. Conditions: none.
-/
open Go Dn
set_option linter.unusedVariables false
set_option linter.unusedSimpArgs false
namespace Dn.S
theorem xH (p:List UInt8):na p=some (bk p):=by
 unfold na
 by_cases hl:p.length≤100
 rotate_left
 ·rw [if_pos (by omega)];simp [bk,hl]
 rw [if_neg (by omega),I8 p (by omega),aC]
 have hle: ∀y∈(if lW p then aL p else []),y.length≤100:=by
  intro y hy
  split at hy
  ·unfold aL at hy
   split at hy
   ·simp at hy
   ·have:=Mt _ y hy;rw [List.length_drop] at this;omega
  ·simp at hy
 have hlen:(if lW p then aL p else []).length≤101:=by
  split
  ·unfold aL
   split
   ·simp
   ·have:=vQ (c:=47) (p.drop 1);rw [List.length_drop] at this;omega
  ·simp
 generalize hL:(if lW p then aL p else [])=L at hle hlen
 obtain ⟨r,e,hr⟩:=pH (body:=pe (L,lW p)) L.length (fun k=>j6 (L.getD k [])=true) false (fun k hk _=>by
  have hg:L.getD k []=L[k]:=by rw [List.getD_eq_getElem?_getD,List.getElem?_eq_getElem hk];rfl
  unfold pe
  dsimp only
  rw [if_pos (by omega),bx hk,Ku _ (by have:=hle _ (List.getElem_mem hk);omega),aC,hg]
  constructor
  ·intro h;rw [h];simp only [Bool.not_true,Bool.false_eq_true,if_false];rw [wrap64 (by omega) (by omega)];rfl
  ·intro h;rw [Bool.not_eq_true] at h;rw [h];rfl) (by
  unfold pe
  dsimp only
  rw [if_neg (by omega)])
 rw [e,aC]
 have ni:(∀k,k<L.length→j6 (L.getD k [])=true)↔L.all j6=true:=by
  rw [List.all_eq_true]
  constructor
  ·intro h x hx
   obtain ⟨k,hk,rfl⟩:=List.mem_iff_getElem.1 hx
   have:=h k hk
   rwa [List.getD_eq_getElem?_getD,List.getElem?_eq_getElem hk] at this
  ·intro h k hk
   rw [List.getD_eq_getElem?_getD,List.getElem?_eq_getElem hk]
   exact h _ (List.getElem_mem hk)
 unfold bk
 cases ha:lW p with
 |false=>
  rcases hr with ⟨rfl,h⟩|⟨rfl,k,hk,h⟩<;>simp [aC]
 |true=>
  rw [ha] at hL
  simp only [if_true] at hL
  rw [hL]
  rcases hr with ⟨rfl,h⟩|⟨rfl,k,hk,h⟩
  ·have h:=ni.1 h
   simp only [if_true,aC,Gt,h,hl,decide_true,Bool.and_true,Bool.true_and,Option.some.injEq,decide_eq_decide]
   omega
  ·have:L.all j6=false:=by
    rw [Bool.eq_false_iff];intro hh;exact h (ni.2 hh k hk)
   simp [this]
theorem dU {p:List UInt8} (h:bk p=true):p.length≤100∧lW p=true∧(aL p).length≤8∧(aL p).all j6=true:=by
 unfold bk at h
 simp only [Bool.and_eq_true,decide_eq_true_eq] at h
 exact ⟨h.1.2,h.1.1,h.2.1,h.2.2⟩
theorem xI (p:List UInt8):ol p=some (if bk p then (aL p,0) else ([],13)):=by
 unfold ol
 rw [xH,aC]
 cases h:bk p with
 |false=>simp
 |true=>
  obtain ⟨h1,h2,_⟩:=dU h
  simp only [Bool.not_true,Bool.false_eq_true,if_false,if_true]
  rw [I8 p (by omega),aC,h2]
  rfl
def pI (l:List (List UInt8)):List UInt8:=if l=[] then [47] else l.flatMap (47::·)
theorem YY (l:List (List UInt8)) (h1:(l.flatMap ((47:UInt8)::·)).length≤2^40) (h2:l.length<2^60):xl l=some (pI l):=by
 have fT:Loop (q8 l) (([]:List UInt8),0)=some (l.flatMap ((47:UInt8)::·)):=by
  refine bq.eq (bq.count (fun k=>((l.take k).flatMap ((47:UInt8)::·),(k:Int))) l.length (fun _=>True) rfl trivial (fun k hk _=> ?_) (fun _=> ?_))
  ·unfold q8
   dsimp only
   have XP:(l.take (k+1)).flatMap ((47:UInt8)::·)=(l.take k).flatMap ((47:UInt8)::·)++[47]++l[k]:=by
    rw [take_succ hk,List.flatMap_append];simp
   have agY:((l.take (k+1)).flatMap ((47:UInt8)::·)).length≤(l.flatMap ((47:UInt8)::·)).length:=by
    have:l.flatMap ((47:UInt8)::·)=(l.take (k+1)).flatMap ((47:UInt8)::·)++(l.drop (k+1)).flatMap ((47:UInt8)::·):=by
     rw [←List.flatMap_append,List.take_append_drop]
    rw [this,List.length_append];omega
   rw [XP] at agY
   simp only [List.length_append,List.length_cons,List.length_nil] at agY
   rw [if_pos (by omega),if_pos (by simp only [List.length_cons,List.length_nil];omega),bx hk,if_pos (by simp only [List.length_append,List.length_cons,List.length_nil];omega),wrap64 (by omega) (by omega)]
   refine .mk ⟨?_,trivial⟩
   rw [XP]
   rfl
  ·unfold q8
   dsimp only
   rw [if_neg (by omega),List.take_length]
   exact .mk rfl
 unfold xl
 rw [fT,aC]
 unfold pI
 cases l with
 |nil=>rfl
 |cons a l=>simp
theorem Kx {a b:List UInt8} (hb:(47:UInt8)∉b) (hl:(a++47::b).length<2^60):ir (a++47::b) ([47]:List UInt8)=some (a.length:Int):=by
 have fT:Loop (dF (a++47::b) 47) (((a++47::b).length-1:Nat):Int)=some (.inr (a.length:Int)):=by
  refine bq.eq (bq.loop (fun st=> ∃i:Nat,st=(i:Int)∧a.length≤i∧i<(a++47::b).length) (fun st=>st.toNat) ⟨_,rfl,by simp,by simp⟩ ?_)
  rintro st ⟨i,rfl,h1,h2⟩
  unfold dF
  rw [if_pos (by omega),if_pos ⟨by omega,by omega⟩]
  have hg:(a++47::b).getD (Int.toNat (i:Int)) 0=(a++47::b)[i]:=by
   rw [Int.toNat_natCast,List.getD_eq_getElem?_getD,List.getElem?_eq_getElem h2];rfl
  rw [hg]
  by_cases hi:i=a.length
  ·subst hi
   rw [List.getElem_append_right (by omega)]
   simp
   exact .mk rfl
  ·have cT:(a++47::b)[i]≠47:=by
    obtain ⟨j,hj⟩: ∃j,i=a.length+(j+1):=⟨i-a.length-1,by omega⟩
    subst hj
    rw [List.getElem_append_right (by omega)]
    simp only [Nat.add_sub_cancel_left,List.getElem_cons_succ]
    intro e
    apply hb
    rw [←e]
    exact List.getElem_mem _
   have Yl: ¬((((a++47::b)[i]).toNat:Int)=47):=by
    intro e;apply cT;apply UInt8.toNat_inj.1
    show _=47
    omega
   rw [if_neg Yl,wrap64 (by omega) (by omega)]
   exact .mk ⟨⟨i-1,by omega,by omega,by omega⟩,by omega⟩
 unfold ir
 rw [if_neg (by decide),if_pos (by decide),if_pos (by decide)]
 have h47:(((([47]:List UInt8).getD (Int.toNat 0) 0).toNat:Nat):Int)=47:=by decide
 rw [h47]
 unfold ea
 have hlen:((a++47::b).length:Int)-1=(((a++47::b).length-1:Nat):Int):=by simp;omega
 rw [hlen,wrap64 (by omega) (by omega),fT]
 rfl
theorem Gy {p:List UInt8} (h:lW p=true): ∃r,p=47::r:=by
 cases p with
 |nil=>simp [lW] at h
 |cons x r=>exact ⟨r,by rw [show x=47 by simpa [lW] using h]⟩
theorem I9 {p:List UInt8} (h:lW p=true) (h1:p≠[47]): ∃L x,aL p=L++[x]∧p=L.flatMap ((47:UInt8)::·)++47::x∧(47:UInt8)∉x:=by
 obtain ⟨r,rfl⟩:=Gy h
 have hn:aL (47::r)=bU 47 r:=by simp [aL,h1]
 have JT:=nR (qK (c:=47) r)
 refine ⟨_,_,by rw [hn];exact JT.symm,?_,VV r _ (by rw [←JT];simp)⟩
 have:=zZ (c:=47) r
 rw [←JT,List.flatMap_append] at this
 simpa using this.symm
theorem Ja (p:List UInt8):nd p=some (if bk p then (if p=[47] then ([],6) else (pI (aL p).dropLast,0)) else ([],13)):=by
 unfold nd
 rw [uC,aC]
 cases h:bk p with
 |false=>simp
 |true=>
  obtain ⟨h1,h2,h3,h4⟩:=dU h
  simp only [Bool.not_true,Bool.false_eq_true,if_false,if_true]
  by_cases hp:p=[47]
  ·rw [if_pos hp,if_pos hp]
  ·rw [if_neg hp,if_neg hp]
   obtain ⟨L,x,e1,e2,e3⟩:=I9 h2 hp
   rw [e1,List.dropLast_concat]
   rw [e2] at h1⊢
   rw [Kx e3 (by omega),aC]
   generalize hJ:L.flatMap ((47:UInt8)::·)=J at h1
   have hm:imax 1 (J.length:Int)=((max 1 J.length:Nat):Int):=by unfold imax;split<;>omega
   have hle:max 1 J.length≤(J++47::x).length:=by simp;omega
   rw [hm,if_pos ⟨by decide,by omega,by omega⟩]
   simp only [Int.toNat_natCast,Int.toNat_zero,List.drop_zero,Option.some.injEq,Prod.mk.injEq,and_true]
   unfold pI
   cases L with
   |nil=>simp at hJ;subst hJ;simp
   |cons a L=>
    rw [if_neg (by simp),hJ]
    have eu:1≤J.length:=by rw [←hJ];simp
    rw [Nat.max_eq_right eu,List.take_left']
    rfl
theorem yB {p:List UInt8} (h:bk p=true):((aL p).length=0↔p=[47]):=by
 obtain ⟨h1,h2,h3,h4⟩:=dU h
 constructor
 ·intro h0
  by_cases hp:p=[47]
  ·exact hp
  ·obtain ⟨L,x,e1,_⟩:=I9 h2 hp
   rw [e1] at h0;simp at h0
 ·intro hp;simp [aL,hp]
theorem VX {p:List UInt8} (h:lW p=true) (k:Nat):(((aL p).take k).flatMap ((47:UInt8)::·)).length≤p.length:=by
 by_cases hp:p=[47]
 ·subst hp;simp [aL]
 ·obtain ⟨r,rfl⟩:=Gy h
  have hn:aL (47::r)=bU 47 r:=by simp [aL,hp]
  have:=zZ (c:=47) r
  rw [hn]
  rw [←List.take_append_drop k (bU 47 r),List.flatMap_append] at this
  rw [←this,List.length_append];omega
theorem Ky (p:List UInt8):om p=some (if bk p then (if p=[47] then ([],6) else (pI (aL p).dropLast,0)) else ([],13)):=by
 unfold om
 rw [xI,aC]
 cases h:bk p with
 |false=>simp
 |true=>
  obtain ⟨h1,h2,h3,h4⟩:=dU h
  simp only [if_true,decide_true,Bool.not_true,Bool.false_eq_true,if_false]
  by_cases hp:p=[47]
  ·rw [if_pos hp,if_pos (by rw [(yB h).2 hp];rfl)]
  ·have cT: ¬(aL p).length=0:=fun e=>hp ((yB h).1 e)
   rw [if_neg hp,if_neg (by omega),wrap64 (by omega) (by omega),if_pos ⟨by decide,by omega,by omega⟩]
   have e1:(((aL p).length:Int)-1).toNat=(aL p).length-1:=by omega
   simp only [Int.toNat_zero,List.drop_zero,e1]
   rw [←List.dropLast_eq_take]
   rw [YY _ (by rw [List.dropLast_eq_take];have:=VX h2 ((aL p).length-1);omega) (by simp;omega),aC]
end Dn.S
