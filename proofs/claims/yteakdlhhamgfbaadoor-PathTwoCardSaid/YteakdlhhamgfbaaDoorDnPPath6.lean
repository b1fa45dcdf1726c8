import Derived.Test.YteakdlhhamgfbaaDoorDnPPath4
/-
  PathTwo. Conditions: none.
-/
open Go Dn
set_option linter.unusedVariables false
set_option linter.unusedSimpArgs false
namespace Dn.S
theorem zh (p name:List UInt8) (h1:p.length≤1000) (h2:name.length≤1000):
 nu p name=some (if bL p&&(dr name&&bL (iQ p name)) then (iQ p name,0) else ([],13)):=by
 unfold nu
 rw [iP,bY,pO name (by omega)]
 cases hp:bL p with
 |false=>simp
 |true=>
 cases hx:dr name with
 |false=>simp
 |true=>
 obtain ⟨g1,g2,g3,g4⟩:=zg hp hx
 obtain ⟨q1,q2,q3,q4⟩:=eV hp
 have hf:=zW q2 q4 name
 have Aj:(iQ p name).length≤2001:=by
  unfold iQ
  split<;>(simp only [List.length_append,List.length_cons,List.length_nil,List.length_dropLast];omega)
 have hm:lr (ba p++[name])=some (iQ p name):=by
  rw [F2 _ (by rw [←hf];omega) (by simp only [List.length_append,List.length_cons,List.length_nil];omega),←g3]
 simp only [if_true,decide_true,Bool.not_true,Bool.false_eq_true,if_false,bY,Bool.true_and]
 rw [if_pos (by simp only [List.length_cons,List.length_nil];omega),hm,bY,q8,bY]
 cases bL (iQ p name)<;>simp
theorem Bo {a b:List (List UInt8)} (ha:a.length≤100) (dJ:a.length<b.length) (x y:Int):Loop (iI (a,x) (b,y)) 0=some (if a=b.take a.length then .inl () else .inr false):=by
 refine bQ.eq (bQ.count (fun k=>(k:Int)) a.length (fun k=>a.take k=b.take k) rfl (by simp) (fun k hk hp=> ?_) (fun hp=> ?_))
 ·have Ey:k<b.length:=by omega
  unfold iI
  simp only
  rw [if_pos (by omega),gy hk,gy Ey]
  by_cases he:a[k]=b[k]
  ·rw [decide_eq_true he,if_neg (by simp),wrap64 (by omega) (by omega)]
   refine .mk ⟨by omega,?_⟩
   rw [List.take_add_one,List.take_add_one,List.getElem?_eq_getElem hk,List.getElem?_eq_getElem Ey,hp,he]
  ·rw [decide_eq_false he,if_pos (by simp)]
   refine .mk ?_
   rw [if_neg]
   intro hh
   refine he ?_
   have:=congrArg (fun l=>l[k]?) hh
   simp only [List.getElem?_take,hk,if_true] at this
   rw [List.getElem?_eq_getElem hk,List.getElem?_eq_getElem Ey] at this
   exact Option.some.inj this
 ·unfold iI
  simp only
  rw [if_neg (by omega)]
  rw [List.take_length] at hp
  exact .mk (by rw [if_pos hp])
theorem xL (p q:List UInt8):lv p q=some (wa p q):=by
 unfold lv wa
 rw [iP,bY,iP,bY]
 cases hp:bL p with
 |false=>simp
 |true=>
 cases hq:bL q with
 |false=>simp
 |true=>
 have hl:=(eV hp).2.2.1
 simp only [if_true,decide_true,Bool.not_true,Bool.false_eq_true,if_false,Bool.true_and,bY,jY]
 by_cases dJ:(ba p).length<(ba q).length
 ·rw [decide_eq_false (by omega),if_neg (by simp),Bo (by omega) dJ,bY,decide_eq_true dJ]
  by_cases he:ba p=(ba q).take (ba p).length
  ·rw [if_pos he,decide_eq_true he];rfl
  ·rw [if_neg he,decide_eq_false he];rfl
 ·rw [decide_eq_true (by omega),if_pos rfl,decide_eq_false dJ];rfl
theorem Bp {a b:List (List UInt8)} (ha:a.length≤100) (hb:b.length≤100) (x y:Int):bQ (Loop (iJ (a,x) (b,y)) 0) fun r=>(r= .inl ()∧qv a b=decide ((a.length:Int)<(b.length:Int)))∨r= .inr (qv a b):=by
 refine bQ.count (fun k=>(k:Int)) (min a.length b.length) (fun k=>qv a b=qv (a.drop k) (b.drop k)) rfl (by simp) (fun k hk hp=> ?_) (fun hp=> ?_)
 ·have Nr:k<a.length:=by omega
  have Ey:k<b.length:=by omega
  unfold iJ
  simp only
  rw [if_pos (by omega),decide_eq_true (by omega),bY,if_pos rfl,gy Nr,gy Ey]
  rw [List.drop_eq_getElem_cons Nr,List.drop_eq_getElem_cons Ey] at hp
  simp only [qv] at hp
  by_cases he:a[k]=b[k]
  ·rw [decide_eq_true he,if_neg (by simp),wrap64 (by omega) (by omega)]
   refine .mk ⟨by omega,?_⟩
   rw [hp,he,qu]
   simp
  ·rw [decide_eq_false he,if_pos (by simp),gy Nr,gy Ey]
   refine .mk (.inr ?_)
   rw [hp,decide_eq_false he]
   simp
 ·unfold iJ
  simp only
  have hg:(if ((min a.length b.length:Nat):Int)<(a.length:Int) then some (decide (((min a.length b.length:Nat):Int)<(b.length:Int))) else some false:Option Bool)=some false:=by
   by_cases c:((min a.length b.length:Nat):Int)<(a.length:Int)
   ·rw [if_pos c,decide_eq_false (by omega)]
   ·rw [if_neg c]
  rw [hg,bY,if_neg (by simp)]
  refine .mk (.inl ⟨rfl,?_⟩)
  rw [hp]
  by_cases c:a.length≤b.length
  ·rw [show min a.length b.length=a.length by omega,List.drop_length]
   by_cases c2:a.length<b.length
   ·rw [decide_eq_true (by omega),List.drop_eq_getElem_cons c2];rfl
   ·rw [decide_eq_false (by omega),List.drop_of_length_le (by omega)];rfl
  ·rw [show min a.length b.length=b.length by omega,List.drop_length,decide_eq_false (by omega),List.drop_eq_getElem_cons (by omega:b.length<a.length)];rfl
theorem xM (p q:List UInt8):lz p q=some (v8 p q):=by
 unfold lz v8
 rw [iP,bY,iP,bY]
 cases hp:bL p with
 |false=>simp
 |true=>
 cases hq:bL q with
 |false=>simp
 |true=>
 have hl:=(eV hp).2.2.1
 have pQ:=(eV hq).2.2.1
 simp only [if_true,decide_true,Bool.not_true,Bool.false_eq_true,if_false,Bool.true_and,bY]
 refine bQ.eq (bQ.bd (Bp (by omega) (by omega) 0 0) ?_)
 rintro r (⟨rfl,h⟩|rfl)
 ·rw [h];exact .mk rfl
 ·exact .mk rfl
theorem xN (p q:List UInt8):kw p q=some true:=by
 unfold kw
 by_cases h1:p.length≤1000
 rotate_left
 ·rw [if_pos (by omega),bY,if_pos rfl,oU];rfl
 by_cases h2:q.length≤1000
 rotate_left
 ·rw [if_neg (by omega),decide_eq_true (by omega),bY,if_pos rfl,oU];rfl
 rw [if_neg (by omega),decide_eq_false (by omega),bY,if_neg (by simp),join_eq p q h1 h2,bY,zh p q h1 h2,bY,oU]
 simp [Em,xL,El,xM]
end Dn.S
