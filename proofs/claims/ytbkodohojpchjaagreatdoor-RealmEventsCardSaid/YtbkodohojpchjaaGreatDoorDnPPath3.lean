import Derived.Test.YtbkodohojpchjaaGreatDoorDnPPath2
/-
  Paths: what the document says; PathTells. Conditions: none.
-/
open Go Dn
set_option linter.unusedVariables false
set_option linter.unusedSimpArgs false
namespace Dn.S
theorem fH {p:List UInt8} (h:bJ p=true):p.length≤100∧rW p=true∧(aM p).length≤8∧(aM p).all oh=true:=by
 unfold bJ at h
 simp only [Bool.and_eq_true,decide_eq_true_eq] at h
 exact ⟨h.1.2,h.1.1,h.2.1,h.2.2⟩
def rq (l:List (List UInt8)):List UInt8:=if l=[] then [47] else l.flatMap (47::·)
theorem HD {a b:List UInt8} (hb:(47:UInt8)∉b) (hl:(a++47::b).length<2^60):fZ (a++47::b) ([47]:List UInt8)=some (a.length:Int):=by
 have iw:Loop (di (a++47::b) 47) (((a++47::b).length-1:Nat):Int)=some (.inr (a.length:Int)):=by
  refine bV.eq (bV.loop (fun st=> ∃i:Nat,st=(i:Int)∧a.length≤i∧i<(a++47::b).length) (fun st=>st.toNat) ⟨_,rfl,by simp,by simp⟩ ?_)
  rintro st ⟨i,rfl,h1,h2⟩
  unfold di
  rw [if_pos (by omega),if_pos ⟨by omega,by omega⟩]
  have hg:(a++47::b).getD (Int.toNat (i:Int)) 0=(a++47::b)[i]:=by
   rw [Int.toNat_natCast,List.getD_eq_getElem?_getD,List.getElem?_eq_getElem h2];rfl
  rw [hg]
  by_cases hi:i=a.length
  ·subst hi
   rw [List.getElem_append_right (by omega)]
   simp
   exact .mk rfl
  ·have cG:(a++47::b)[i]≠47:=by
    obtain ⟨j,hj⟩: ∃j,i=a.length+(j+1):=⟨i-a.length-1,by omega⟩
    subst hj
    rw [List.getElem_append_right (by omega)]
    simp only [Nat.add_sub_cancel_left,List.getElem_cons_succ]
    intro e
    apply hb
    rw [←e]
    exact List.getElem_mem _
   have Uz: ¬((((a++47::b)[i]).toNat:Int)=47):=by
    intro e;apply cG;apply UInt8.toNat_inj.1
    show _=47
    omega
   rw [if_neg Uz,wrap64 (by omega) (by omega)]
   exact .mk ⟨⟨i-1,by omega,by omega,by omega⟩,by omega⟩
 unfold fZ
 rw [if_neg (by decide),if_pos (by decide),if_pos (by decide)]
 have h47:(((([47]:List UInt8).getD (Int.toNat 0) 0).toNat:Nat):Int)=47:=by decide
 rw [h47]
 unfold dB
 have hlen:((a++47::b).length:Int)-1=(((a++47::b).length-1:Nat):Int):=by simp;omega
 rw [hlen,wrap64 (by omega) (by omega),iw]
 rfl
theorem Jy {p:List UInt8} (h:rW p=true): ∃r,p=47::r:=by
 cases p with
 |nil=>simp [rW] at h
 |cons x r=>exact ⟨r,by rw [show x=47 by simpa [rW] using h]⟩
theorem Gd {p:List UInt8} (h:rW p=true) (h1:p≠[47]): ∃L x,aM p=L++[x]∧p=L.flatMap ((47:UInt8)::·)++47::x∧(47:UInt8)∉x:=by
 obtain ⟨r,rfl⟩:=Jy h
 have hn:aM (47::r)=du 47 r:=by simp [aM,h1]
 have Mj:=zl (Aj (c:=47) r)
 refine ⟨_,_,by rw [hn];exact Mj.symm,?_,Sh r _ (by rw [←Mj];simp)⟩
 have:=DP (c:=47) r
 rw [←Mj,List.flatMap_append] at this
 simpa using this.symm
theorem Ge (p:List UInt8):mj p=some (if bJ p then (if p=[47] then ([],6) else (rq (aM p).dropLast,0)) else ([],13)):=by
 unfold mj
 rw [sZ,aR]
 cases h:bJ p with
 |false=>simp
 |true=>
  obtain ⟨h1,h2,h3,h4⟩:=fH h
  simp only [Bool.not_true,Bool.false_eq_true,if_false,if_true]
  by_cases hp:p=[47]
  ·rw [if_pos hp,if_pos hp]
  ·rw [if_neg hp,if_neg hp]
   obtain ⟨L,x,e1,e2,e3⟩:=Gd h2 hp
   rw [e1,List.dropLast_concat]
   rw [e2] at h1⊢
   rw [HD e3 (by omega),aR]
   generalize hJ:L.flatMap ((47:UInt8)::·)=J at h1
   have hm:imax 1 (J.length:Int)=((max 1 J.length:Nat):Int):=by unfold imax;split<;>omega
   have hle:max 1 J.length≤(J++47::x).length:=by simp;omega
   rw [hm,if_pos ⟨by decide,by omega,by omega⟩]
   simp only [Int.toNat_natCast,Int.toNat_zero,List.drop_zero,Option.some.injEq,Prod.mk.injEq,and_true]
   unfold rq
   cases L with
   |nil=>simp at hJ;subst hJ;simp
   |cons a L=>
    rw [if_neg (by simp),hJ]
    have dS:1≤J.length:=by rw [←hJ];simp
    rw [Nat.max_eq_right dS,List.take_left']
    rfl
theorem Gf {p:List UInt8} (h:bJ p=true):((aM p).length=0↔p=[47]):=by
 obtain ⟨h1,h2,h3,h4⟩:=fH h
 constructor
 ·intro h0
  by_cases hp:p=[47]
  ·exact hp
  ·obtain ⟨L,x,e1,_⟩:=Gd h2 hp
   rw [e1] at h0;simp at h0
 ·intro hp;simp [aM,hp]
end Dn.S
