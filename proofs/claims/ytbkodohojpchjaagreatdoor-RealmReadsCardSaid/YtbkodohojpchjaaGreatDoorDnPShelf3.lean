import Derived.Test.YtbkodohojpchjaaGreatDoorDnPShelf2
/-
  Shelves: the document's word; ShelfMay. Conditions: none.
-/
open Go Dn
set_option linter.unusedVariables false
set_option linter.unusedSimpArgs false
namespace Dn.S
theorem V1 {l:List (List UInt8)} {p:List UInt8}:pJ l p=0↔l.head? =some p:=by
 cases l with
 |nil=>simp [pJ]
 |cons a l=>
  unfold pJ
  rw [List.findIdx?_cons]
  by_cases h:a=p
  ·simp [h]
  ·simp only [h,decide_false,Bool.false_eq_true,if_false,List.head?_cons,Option.some.injEq,iff_false]
   cases hf:l.findIdx? (fun x=>decide (x=p)) with
   |none=>simp
   |some k=>simp;omega
theorem Mz (L:List ae):(L.map toR).map (·.Path)=L.map (·.Path):=by
 rw [List.map_map];rfl
theorem toR_path (x:ae):(toR x).Path=x.Path:=rfl
theorem toR_value (x:ae):(toR x).Value=x.Value:=rfl
theorem toR_version (x:ae):(toR x).Version=x.Version:=rfl
theorem toR_owner (x:ae):(toR x).bI=x.bI:=rfl
theorem MA (s:ay) (hl:s.L.length<2^40):uc (lX s)=some (xJ s.L):=by
 have hlen:(lX s).L.length=s.L.length:=List.length_map ..
 have Eo: ∀p,vj (lX s) p=some (pJ (s.L.map (·.Path)) p):=by
  intro p
  rw [agZ (lX s) p (by rw [hlen];exact hl)]
  show some (pJ ((s.L.map toR).map (·.Path)) p)=_
  rw [Mz]
 unfold uc xJ
 rw [hlen]
 by_cases h1:1≤s.L.length
 rotate_left
 ·rw [if_pos (by omega),aC,if_pos rfl,decide_eq_false h1];rfl
 by_cases h2:s.L.length≤200
 rotate_left
 ·rw [if_neg (by omega),decide_eq_true (by omega),aC,if_pos rfl,decide_eq_false h2];simp
 rw [if_neg (by omega),decide_eq_false (by omega),aC,if_neg (by decide),decide_eq_true h1,decide_eq_true h2]
 obtain ⟨r,e,hr⟩:=pH (body:=pg (lX s)) s.L.length (fun k=>V0 s.L k=true) false (fun k hk _=>by
  have lr:V0 s.L k=((bk (s.L[k]).Path&&(decide ((s.L[k]).Value.length≤1000)&&(decide (0≤(s.L[k]).Version)&&(decide ((s.L[k]).Version≤1000000000)&&(decide (0≤(s.L[k]).bI)&&rT s.L s.L[k])))))&&
   (decide (k=0)||match s.L[k-1]? with
    |some y=>lf y.Path (s.L[k]).Path
    |none=>false)):=by
   unfold V0;rw [List.getElem?_eq_getElem hk];rfl
  rw [lr]
  have OR:k<(lX s).L.length:=by rw [hlen];exact hk
  have mf:(lX s).L[k]=toR s.L[k]:=List.getElem_map ..
  unfold pg
  rw [if_pos (by omega),bx OR,mf]
  generalize hx:s.L[k]=x
  simp only [toR_path,toR_value,toR_version,toR_owner]
  rw [xH,aC]
  cases c1:bk x.Path with
  |false=>simp [aC]
  |true=>
  by_cases c2:x.Value.length≤1000
  rotate_left
  ·rw [if_neg (by decide),if_pos (by omega)];simp [aC,c2]
  by_cases c3:0≤x.Version
  rotate_left
  ·rw [if_neg (by decide),if_neg (by omega),if_pos (by omega)];simp [aC,c3]
  by_cases c4:x.Version≤1000000000
  rotate_left
  ·rw [if_neg (by decide),if_neg (by omega),if_neg (by omega),if_pos (by omega)];simp [aC,c4]
  by_cases c5:0≤x.bI
  rotate_left
  ·rw [if_neg (by decide),if_neg (by omega),if_neg (by omega),if_neg (by omega),if_pos (by omega)];simp [aC,c5]
  rw [if_neg (by decide),if_neg (by omega),if_neg (by omega),if_neg (by omega),if_neg (by omega)]
  have Uw: ∀(X:Option (Int⊕(Unit⊕Bool))),(rT s.L x=true→X=some (.inl ((k+1:Nat):Int)))→(rT s.L x=false→X=some (.inr (.inr false)))→True:=fun _ _ _=>trivial
  have hgp:(bd (om x.Path) fun cX=>
   if !decide (cX.2=0) then
   if !decide (x.bI=0) then
   some (Sum.inr (Sum.inr false))
   else
   some (Sum.inl (IntKind.wrap .i64 ((k:Int)+1)))
   else
   bd (vj (lX s) cX.1) fun oo=>
   bd (
    if oo<0 then
    some true
    else
    ix (lX s).L oo fun y2=>
    some (!decide (y2.bI=0)):Option Bool) fun w3=>
   if w3 then
   some (Sum.inr (Sum.inr false))
   else
   some (Sum.inl (IntKind.wrap .i64 ((k:Int)+1))):Option (Int⊕(Unit⊕Bool)))=if rT s.L x then some (.inl ((k+1:Nat):Int)) else some (.inr (.inr false)):=by
   rw [Ky,aC,wrap64 (by omega) (by omega)]
   show (if !decide ((cJ x.Path).2=0) then _ else bd (vj (lX s) (cJ x.Path).1) _)=_
   unfold rT
   by_cases h:(cJ x.Path).2=0
   ·rw [decide_eq_true h,if_neg (by decide),if_pos h,Eo,aC]
    unfold Qi
    by_cases hi:0≤pJ (s.L.map (·.Path)) (cJ x.Path).1
    ·have da:=Kz hi
     rw [List.length_map] at da
     have ak7:(pJ (s.L.map (·.Path)) (cJ x.Path).1).toNat<(lX s).L.length:=by rw [hlen];exact da
     have Rl:(lX s).L[(pJ (s.L.map (·.Path)) (cJ x.Path).1).toNat]=toR s.L[(pJ (s.L.map (·.Path)) (cJ x.Path).1).toNat]:=List.getElem_map ..
     rw [if_neg (by omega),zY hi ak7,Rl,aC,List.getElem?_eq_getElem da,decide_eq_true hi]
     show (if !decide ((s.L[(pJ (s.L.map (·.Path)) (cJ x.Path).1).toNat]).bI=0) then _ else _)=_
     generalize s.L[(pJ (s.L.map (·.Path)) (cJ x.Path).1).toNat]=y
     by_cases ho:y.bI=0<;>simp [ho]
    ·rw [if_pos (by omega),aC,decide_eq_false hi];simp
   ·rw [decide_eq_false h,if_pos (by decide),if_neg h]
    by_cases ho:x.bI=0<;>simp [ho]
  by_cases Rf:k=0
  ·subst Rf
   rw [if_neg (by omega),aC,if_neg (by decide)]
   refine ⟨fun h=> ?_,fun h=> ?_⟩
   ·refine hgp.trans ?_
    rw [if_pos (by simp only [Bool.and_eq_true] at h;exact h.1.2.2.2.2.2)]
   ·refine hgp.trans ?_
    rw [if_neg (by simp [c2,c3,c4,c5] at h;simpa using h)]
  ·have SQ:k-1<s.L.length:=by omega
   have ak8:k-1<(lX s).L.length:=by rw [hlen];exact SQ
   have Ie:(lX s).L[k-1]=toR s.L[k-1]:=List.getElem_map ..
   rw [if_pos (by omega),wrap64 (by omega) (by omega),show (k:Int)-1=((k-1:Nat):Int) by omega,bx ak8,Ie]
   simp only [toR_path]
   rw [Mx,aC,aC,List.getElem?_eq_getElem SQ]
   cases c7:lf (s.L[k-1]).Path x.Path with
   |false=>simp [Rf,c7]
   |true=>
    rw [if_neg (by decide)]
    refine ⟨fun h=> ?_,fun h=> ?_⟩
    ·refine hgp.trans ?_
     rw [if_pos (by simp only [Bool.and_eq_true] at h;exact h.1.2.2.2.2.2)]
    ·refine hgp.trans ?_
     rw [if_neg (by simp [c2,c3,c4,c5,c7] at h;simpa using h)]) (by
  unfold pg
  rw [if_neg (by omega)])
 rw [e,aC]
 have ni:(∀k,k<s.L.length→V0 s.L k=true)↔(List.range s.L.length).all (V0 s.L)=true:=by
  rw [List.all_eq_true]
  exact ⟨fun h k hk=>h k (List.mem_range.1 hk),fun h k hk=>h k (List.mem_range.2 hk)⟩
 rcases hr with ⟨rfl,h⟩|⟨rfl,k,hk,h⟩
 ·rw [ni.1 h]
  simp only [Eo,aC,Bool.and_true,Bool.true_and,Option.some.injEq,decide_eq_decide]
  exact V1
 ·have:(List.range s.L.length).all (V0 s.L)=false:=by
   rw [Bool.eq_false_iff];intro hh;exact h (ni.2 hh k hk)
  rw [this];simp
theorem Y1 (a b:ae):((decide (a.Path=b.Path))&&((decide (a.Value=b.Value))&&((decide (a.Version=b.Version))&&(decide (a.bI=b.bI)))))=decide (a=b):=by
 cases a;cases b;simp [Bool.eq_iff_iff]
theorem KA (s t:ay) (hl:s.L.length<2^40):rk s t=some (decide (s.L=t.L)):=by
 unfold rk gG
 rw [Gt]
 by_cases he:s.L.length=t.L.length
 ·have:decide ((s.L.length:Int)=(t.L.length:Int))=true:=decide_eq_true (by omega)
  rw [this,if_neg (by decide),Cn he (fun k ha hb=>by
   unfold fJ
   rw [if_pos (by omega),bx ha,bx hb,Y1,wrap64 (by omega) (by omega)]
   by_cases hh:s.L[k]=t.L[k]<;>simp [hh]) (by
   unfold fJ
   rw [if_neg (by omega)]),aC]
  by_cases VS:s.L=t.L<;>simp [VS]
 ·have:decide ((s.L.length:Int)=(t.L.length:Int))=false:=decide_eq_false (by omega)
  rw [this,if_pos (by decide)]
  have VS:s.L≠t.L:=fun e=>he (by rw [e])
  simp [VS]
end Dn.S
