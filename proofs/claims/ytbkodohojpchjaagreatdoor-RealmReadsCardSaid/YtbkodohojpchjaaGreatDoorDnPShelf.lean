import Derived.Test.YtbkodohojpchjaaGreatDoorDnPPath5
/-
  Shelves: what the document says of paths; where a path stands. Conditions: none.
-/
open Go Dn
set_option linter.unusedVariables false
set_option linter.unusedSimpArgs false
namespace Dn.S
theorem Mx (p q:List UInt8):ub p q=some (lf p q):=by
 unfold ub lf
 rw [xI,aC,xI,aC]
 cases hp:bk p with
 |false=>simp [aC]
 |true=>
  cases hq:bk q with
  |false=>simp [aC]
  |true=>
   obtain ⟨_,_,hp3,_⟩:=dU hp
   obtain ⟨_,_,hq3,_⟩:=dU hq
   simp only [if_true,decide_true,Bool.not_true,Bool.false_eq_true,if_false,aC,Bool.true_and]
   generalize aL p=a at *
   generalize aL q=b at *
   obtain ⟨r,e,hr⟩: ∃r,Loop (pf (a,0) (b,0)) 0=some r∧(match r with| .inl ()=>mU a b=decide (a.length<b.length)| .inr c=>c=mU a b):=by
    refine bq.count (fun k=>(k:Int)) (min a.length b.length) (fun k=>a.take k=b.take k) rfl rfl (fun k hk hp=> ?_) (fun hp=> ?_)
    ·have ha:k<a.length:=by omega
     have hb:k<b.length:=by omega
     have da:mU a b=mU (a.drop k) (b.drop k):=by
      have:=Bp (a.take k) (a.drop k) (b.drop k)
      rw [List.take_append_drop,hp,List.take_append_drop] at this
      exact this
     rw [List.drop_eq_getElem_cons ha,List.drop_eq_getElem_cons hb] at da
     simp only [mU] at da
     unfold pf
     dsimp only
     rw [if_pos (by omega),aC,decide_eq_true (by omega),if_pos rfl,bx ha,bx hb]
     by_cases h2:a[k]=b[k]
     ·simp only [h2,decide_true,Bool.not_true,Bool.false_eq_true,if_false]
      rw [wrap64 (by omega) (by omega)]
      refine .mk ⟨by omega,?_⟩
      rw [take_succ ha,take_succ hb,hp,h2]
     ·simp only [h2,decide_false,Bool.not_false,if_true,bx ha,bx hb]
      refine .mk ?_
      show Op.bytesLess a[k] b[k]=mU a b
      rw [da];simp [h2]
    ·unfold pf
     dsimp only
     have hw:(if ((min a.length b.length:Nat):Int)<(a.length:Int) then some (decide (((min a.length b.length:Nat):Int)<(b.length:Int))) else some false)=some false:=by
      split
      ·rw [decide_eq_false (by omega)]
      ·rfl
     rw [hw,aC,if_neg (by decide)]
     refine .mk ?_
     show mU a b=decide (a.length<b.length)
     have:=Bp (a.take (min a.length b.length)) (a.drop (min a.length b.length)) (b.drop (min a.length b.length))
     rw [List.take_append_drop,hp,List.take_append_drop] at this
     rw [this]
     by_cases hlen:a.length<b.length
     ·rw [Nat.min_eq_left (by omega),List.drop_length]
      cases hd:b.drop a.length with
      |nil=>have:=congrArg List.length hd;rw [List.length_drop] at this;simp at this;omega
      |cons x y=>simp [mU,hlen]
     ·rw [Nat.min_eq_right (by omega),List.drop_length (l:=b)]
      cases hd:a.drop b.length with
      |nil=>simp [mU,hlen]
      |cons x y=>simp [mU,hlen]
   rw [e,aC]
   cases r with
   |inl u=>dsimp only at hr⊢;rw [hr];congr 1;rw [decide_eq_decide];omega
   |inr c=>dsimp only at hr⊢;rw [hr]
@[reducible] def toR (n : ae) : ew := ⟨n.Path, n.Value, n.Version, n.bI⟩
def lX (s:ay):jS:=⟨s.L.map toR⟩
def pJ (l:List (List UInt8)) (p:List UInt8):Int:=match l.findIdx? (fun x=>decide (x=p)) with
 |some k=>k
 |none=> -1
theorem My {l:List (List UInt8)} {p:List UInt8} (h: ∀x∈l,x≠p):pJ l p= -1:=by
 unfold pJ
 have:l.findIdx? (fun x=>decide (x=p))=none:=by
  rw [List.findIdx?_eq_none_iff]
  intro x hx;simpa using h x hx
 rw [this]
theorem GA {l:List (List UInt8)} {p:List UInt8} {k:Nat} (hk:k<l.length) (h:l[k]=p) (hf: ∀j (hj:j<k),l[j]≠p):pJ l p=k:=by
 unfold pJ
 have:l.findIdx? (fun x=>decide (x=p))=some k:=by
  rw [List.findIdx?_eq_some_iff_getElem]
  exact ⟨hk,by simpa using h,fun j hj=>by simpa using hf j hj⟩
 rw [this]
theorem agZ (s:jS) (p:List UInt8) (hl:s.L.length<2^40):vj s p=some (pJ (s.L.map (·.Path)) p):=by
 obtain ⟨r,e,hr⟩: ∃r,Loop (xm s p) 0=some r∧(match r with| .inl ()=>pJ (s.L.map (·.Path)) p= -1| .inr n=>pJ (s.L.map (·.Path)) p=n):=by
  refine bq.count (fun k=>(k:Int)) s.L.length (fun k=> ∀j (h:j<s.L.length),j<k→(s.L[j]).Path≠p) rfl (fun j _ h=>by omega) (fun k hk hp=> ?_) (fun hp=> ?_)
  ·unfold xm
   rw [if_pos (by omega),bx hk]
   by_cases hh:(s.L[k]).Path=p
   ·rw [if_pos hh]
    refine .mk ?_
    exact GA (by simpa using hk) (by simpa using hh) (fun j hj=>by simpa using hp j (by omega) hj)
   ·rw [if_neg hh,wrap64 (by omega) (by omega)]
    refine .mk ⟨by omega,fun j h hj=> ?_⟩
    by_cases Rk:j=k
    ·subst Rk;exact hh
    ·exact hp j h (by omega)
  ·unfold xm
   rw [if_neg (by omega)]
   refine .mk ?_
   refine My fun x hx=> ?_
   obtain ⟨n,hn,rfl⟩:=List.mem_map.1 hx
   obtain ⟨j,hj,rfl⟩:=List.mem_iff_getElem.1 hn
   exact hp j hj hj
 unfold vj
 rw [e,aC]
 cases r with
 |inl u=>dsimp only at hr⊢;rw [hr]
 |inr n=>dsimp only at hr⊢;rw [hr]
end Dn.S
