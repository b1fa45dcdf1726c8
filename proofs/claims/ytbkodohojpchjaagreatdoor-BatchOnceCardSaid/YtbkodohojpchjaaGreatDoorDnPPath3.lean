import Derived.Test.YtbkodohojpchjaaGreatDoorDnPPath2
import Derived.Test.YtbkodohojpchjaaGreatDoorDnYV
/- Paths: what the document says; PathTells. Conditions: none. -/
set_option linter.unusedVariables false
set_option linter.unusedSimpArgs false
open List renaming getElem_append_right→bN
open Int renaming toNat_natCast→sh
open Option.some renaming injEq→AI
open Go Dn
namespace Dn.S
theorem iw {p:List UInt8}(h:bX p=true):p.length<=100/\vW p=true/\(aT p).length<=8/\(aT p).all ra=true:=by unfold bX at h;simp only [Bool.and_eq_true,decide_eq_true_eq] at h;exact ⟨h.1.2,h.1.1,h.2.1,h.2.2⟩
def vh (l:List (List UInt8)):List UInt8:=if l=[] then [47] else l.flatMap (47::·)
theorem Ou {a b:List UInt8}(hb:(47:UInt8)∉b)(hl:(a++47::b).length<2^60):ji (a++47::b) ([47]:List UInt8)=some (a.length:Int):=by
 have ke:Loop (dM (a++47::b) 47) (((a++47::b).length-1:Nat):Int)=some (.inr (a.length:Int)):=by
  refine bG.eq (bG.loop (λst=> ∃i:Nat,st=(i:Int)/\a.length<=i/\i<(a++47::b).length) (λst=>st.toNat) ⟨_,rfl,by simp,by simp⟩ ?_);rintro st ⟨i,rfl,h1,h2⟩;unfold dM;rw [if_pos (by omega),if_pos ⟨by omega,by omega⟩];have hg:(a++47::b).getD (Int.toNat (i:Int)) 0=(a++47::b)[i]:=by rw [sh,List.getD_eq_getElem?_getD,List.getElem?_eq_getElem h2];rfl
  rw [hg];by_cases hi:i=a.length
  ·subst hi;rw [bN (by omega)];simp;exact .mk rfl
  ·have cR:(a++47::b)[i]≠47:=by
    obtain ⟨j,hj⟩: ∃j,i=a.length+(j+1):=⟨i-a.length-1,by omega⟩
    subst hj;rw [bN (by omega)];simp only [Nat.add_sub_cancel_left,List.getElem_cons_succ];intro e;apply hb;rw [<-e];exact List.getElem_mem _
   have adO: ¬((((a++47::b)[i]).toNat:Int)=47):=by intro e;apply cR;apply UInt8.toNat_inj.1;show _=47;omega
   rw [if_neg adO,wrap64 (by omega) (by omega)];exact .mk ⟨⟨i-1,by omega,by omega,by omega⟩,by omega⟩
 unfold ji;rw [if_neg (by decide),if_pos (by decide),if_pos (by decide)];have ZH:(((([47]:List UInt8).getD (Int.toNat 0) 0).toNat:Nat):Int)=47:=by decide
 rw [ZH];unfold eu;have hlen:((a++47::b).length:Int)-1=(((a++47::b).length-1:Nat):Int):=by simp;omega
 rw [hlen,wrap64 (by omega) (by omega),ke];rfl
theorem QB {p:List UInt8}(h:vW p=true): ∃r,p=47::r:=by
 cases p with
 |nil=>simp [vW] at h
 |cons x r=>exact ⟨r,by rw [show x=47 by simpa [vW] using h]⟩
theorem MF {p:List UInt8}(h:vW p=true)(h1:p≠[47]): ∃L x,aT p=L++[x]/\p=L.flatMap ((47:UInt8)::·)++47::x/\(47:UInt8)∉x:=by
 obtain ⟨r,rfl⟩:=QB h;have hn:aT (47::r)=eh 47 r:=by simp [aT,h1]
 have LU:=DO (ES (c:=47) r);refine ⟨_,_,by rw [hn];exact LU.symm,?_,aaZ r _ (by rw [<-LU];simp)⟩;have:=JN (c:=47) r;rw [<-LU,List.flatMap_append] at this;simpa using this.symm
theorem MG (p:List UInt8):oz p=some (if bX p then (if p=[47] then ([],6) else (vh (aT p).dropLast,0)) else ([],13)):=by
 unfold oz;rw [wW,az];cases h:bX p with
 |false=>simp
 |true=>
  obtain ⟨h1,h2,h3,h4⟩:=iw h;simp only [Bool.not_true,Bool.false_eq_true,if_false,if_true];by_cases hp:p=[47]
  ·rw [if_pos hp,if_pos hp]
  ·rw [if_neg hp,if_neg hp];obtain ⟨L,x,e1,e2,e3⟩:=MF h2 hp;rw [e1,List.dropLast_concat];rw [e2] at h1⊢;rw [Ou e3 (by omega),az];generalize hJ:L.flatMap ((47:UInt8)::·)=J at h1;have hm:imax 1 (J.length:Int)=((max 1 J.length:Nat):Int):=by unfold imax;split<;>omega
   have hle:max 1 J.length<=(J++47::x).length:=by simp;omega
   rw [hm,if_pos ⟨by decide,by omega,by omega⟩];simp only [sh,Int.toNat_zero,List.drop_zero,AI,Prod.mk.injEq,and_true];unfold vh;cases L with
   |nil=>simp at hJ;subst hJ;simp
   |cons a L=>
    rw [if_neg (by simp),hJ];have eD:1<=J.length:=by rw [<-hJ];simp
    rw [Nat.max_eq_right eD,List.take_left'];rfl
theorem MH {p:List UInt8}(h:bX p=true):((aT p).length=0↔p=[47]):=by
 obtain ⟨h1,h2,h3,h4⟩:=iw h;constructor
 ·intro h0;by_cases hp:p=[47]
  ·exact hp
  ·obtain ⟨L,x,e1,_⟩:=MF h2 hp;rw [e1] at h0;simp at h0
 ·intro hp;simp [aT,hp]
end Dn.S
