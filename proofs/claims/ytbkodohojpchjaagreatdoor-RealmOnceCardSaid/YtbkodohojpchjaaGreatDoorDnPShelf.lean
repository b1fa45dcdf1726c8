import Derived.Test.YtbkodohojpchjaaGreatDoorDnPPath5
/-
  Shelves: what the document says of paths; where a path stands. Conditions: none.
-/
open Go Dn
set_option linter.unusedVariables false
set_option linter.unusedSimpArgs false
namespace Dn.S
theorem MQ (p q:List UInt8):uj p q=some (lf p q):=by
 unfold uj lf
 rw [xX,aA,xX,aA]
 cases hp:bm p with
 |false=>simp [aA]
 |true=>
  cases hq:bm q with
  |false=>simp [aA]
  |true=>
   obtain ⟨_,_,hp3,_⟩:=ea hp
   obtain ⟨_,_,hq3,_⟩:=ea hq
   simp only [if_true,decide_true,Bool.not_true,Bool.false_eq_true,if_false,aA,Bool.true_and]
   generalize aK p=a at *
   generalize aK q=b at *
   obtain ⟨r,e,hr⟩: ∃r,Loop (pn (a,0) (b,0)) 0=some r∧(match r with| .inl ()=>mW a b=decide (a.length<b.length)| .inr c=>c=mW a b):=by
    refine bu.count (fun k=>(k:Int)) (min a.length b.length) (fun k=>a.take k=b.take k) rfl rfl (fun k hk hp=> ?_) (fun hp=> ?_)
    ·have ha:k<a.length:=by omega
     have hb:k<b.length:=by omega
     have dn:mW a b=mW (a.drop k) (b.drop k):=by
      have:=BB (a.take k) (a.drop k) (b.drop k)
      rw [List.take_append_drop,hp,List.take_append_drop] at this
      exact this
     rw [List.drop_eq_getElem_cons ha,List.drop_eq_getElem_cons hb] at dn
     simp only [mW] at dn
     unfold pn
     dsimp only
     rw [if_pos (by omega),aA,decide_eq_true (by omega),if_pos rfl,bt ha,bt hb]
     by_cases h2:a[k]=b[k]
     ·simp only [h2,decide_true,Bool.not_true,Bool.false_eq_true,if_false]
      rw [wrap64 (by omega) (by omega)]
      refine .mk ⟨by omega,?_⟩
      rw [take_succ ha,take_succ hb,hp,h2]
     ·simp only [h2,decide_false,Bool.not_false,if_true,bt ha,bt hb]
      refine .mk ?_
      show Op.bytesLess a[k] b[k]=mW a b
      rw [dn];simp [h2]
    ·unfold pn
     dsimp only
     have hw:(if ((min a.length b.length:Nat):Int)<(a.length:Int) then some (decide (((min a.length b.length:Nat):Int)<(b.length:Int))) else some false)=some false:=by
      split
      ·rw [decide_eq_false (by omega)]
      ·rfl
     rw [hw,aA,if_neg (by decide)]
     refine .mk ?_
     show mW a b=decide (a.length<b.length)
     have:=BB (a.take (min a.length b.length)) (a.drop (min a.length b.length)) (b.drop (min a.length b.length))
     rw [List.take_append_drop,hp,List.take_append_drop] at this
     rw [this]
     by_cases hlen:a.length<b.length
     ·rw [Nat.min_eq_left (by omega),List.drop_length]
      cases hd:b.drop a.length with
      |nil=>have:=congrArg List.length hd;rw [List.length_drop] at this;simp at this;omega
      |cons x y=>simp [mW,hlen]
     ·rw [Nat.min_eq_right (by omega),List.drop_length (l:=b)]
      cases hd:a.drop b.length with
      |nil=>simp [mW,hlen]
      |cons x y=>simp [mW,hlen]
   rw [e,aA]
   cases r with
   |inl u=>dsimp only at hr⊢;rw [hr];congr 1;rw [decide_eq_decide];omega
   |inr c=>dsimp only at hr⊢;rw [hr]
@[reducible] def toR (n : ae) : eG := ⟨n.Path, n.Value, n.Version, n.bJ⟩
def lX (s:ax):jU:=⟨s.L.map toR⟩
def qg (l:List (List UInt8)) (p:List UInt8):Int:=match l.findIdx? (fun x=>decide (x=p)) with
 |some k=>k
 |none=> -1
theorem Wt {l:List (List UInt8)} {p:List UInt8} (h: ∀x∈l,x≠p):qg l p= -1:=by
 unfold qg
 have:l.findIdx? (fun x=>decide (x=p))=none:=by
  rw [List.findIdx?_eq_none_iff]
  intro x hx;simpa using h x hx
 rw [this]
theorem GA {l:List (List UInt8)} {p:List UInt8} {k:Nat} (hk:k<l.length) (h:l[k]=p) (hf: ∀j (hj:j<k),l[j]≠p):qg l p=k:=by
 unfold qg
 have:l.findIdx? (fun x=>decide (x=p))=some k:=by
  rw [List.findIdx?_eq_some_iff_getElem]
  exact ⟨hk,by simpa using h,fun j hj=>by simpa using hf j hj⟩
 rw [this]
theorem ag5 (s:jU) (p:List UInt8) (hl:s.L.length<2^40):vw s p=some (qg (s.L.map (·.Path)) p):=by
 obtain ⟨r,e,hr⟩: ∃r,Loop (xA s p) 0=some r∧(match r with| .inl ()=>qg (s.L.map (·.Path)) p= -1| .inr n=>qg (s.L.map (·.Path)) p=n):=by
  refine bu.count (fun k=>(k:Int)) s.L.length (fun k=> ∀j (h:j<s.L.length),j<k→(s.L[j]).Path≠p) rfl (fun j _ h=>by omega) (fun k hk hp=> ?_) (fun hp=> ?_)
  ·unfold xA
   rw [if_pos (by omega),bt hk]
   by_cases hh:(s.L[k]).Path=p
   ·rw [if_pos hh]
    refine .mk ?_
    exact GA (by simpa using hk) (by simpa using hh) (fun j hj=>by simpa using hp j (by omega) hj)
   ·rw [if_neg hh,wrap64 (by omega) (by omega)]
    refine .mk ⟨by omega,fun j h hj=> ?_⟩
    by_cases Yl:j=k
    ·subst Yl;exact hh
    ·exact hp j h (by omega)
  ·unfold xA
   rw [if_neg (by omega)]
   refine .mk ?_
   refine Wt fun x hx=> ?_
   obtain ⟨n,hn,rfl⟩:=List.mem_map.1 hx
   obtain ⟨j,hj,rfl⟩:=List.mem_iff_getElem.1 hn
   exact hp j hj hj
 unfold vw
 rw [e,aA]
 cases r with
 |inl u=>dsimp only at hr⊢;rw [hr]
 |inr n=>dsimp only at hr⊢;rw [hr]
end Dn.S
