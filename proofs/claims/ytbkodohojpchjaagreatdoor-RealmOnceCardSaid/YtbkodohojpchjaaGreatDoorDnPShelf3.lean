import Derived.Test.YtbkodohojpchjaaGreatDoorDnPShelf2
/-
  Shelves: the document's word; ShelfMay. Conditions: none.
-/
open Go Dn
set_option linter.unusedVariables false
set_option linter.unusedSimpArgs false
namespace Dn.S
theorem Wv {l:List (List UInt8)} {p:List UInt8}:qg l p=0↔l.head? =some p:=by
 cases l with
 |nil=>simp [qg]
 |cons a l=>
  unfold qg
  rw [List.findIdx?_cons]
  by_cases h:a=p
  ·simp [h]
  ·simp only [h,decide_false,Bool.false_eq_true,if_false,List.head?_cons,Option.some.injEq,iff_false]
   cases hf:l.findIdx? (fun x=>decide (x=p)) with
   |none=>simp
   |some k=>simp;omega
theorem MR (L:List ae):(L.map toR).map (·.Path)=L.map (·.Path):=by
 rw [List.map_map];rfl
theorem toR_path (x:ae):(toR x).Path=x.Path:=rfl
theorem toR_value (x:ae):(toR x).Value=x.Value:=rfl
theorem toR_version (x:ae):(toR x).Version=x.Version:=rfl
theorem toR_owner (x:ae):(toR x).bJ=x.bJ:=rfl
theorem MU (s:ax) (hl:s.L.length<2^40):uk (lX s)=some (xY s.L):=by
 have hlen:(lX s).L.length=s.L.length:=List.length_map ..
 have Ex: ∀p,vw (lX s) p=some (qg (s.L.map (·.Path)) p):=by
  intro p
  rw [ag5 (lX s) p (by rw [hlen];exact hl)]
  show some (qg ((s.L.map toR).map (·.Path)) p)=_
  rw [MR]
 unfold uk xY
 rw [hlen]
 by_cases h1:1≤s.L.length
 rotate_left
 ·rw [if_pos (by omega),aA,if_pos rfl,decide_eq_false h1];rfl
 by_cases h2:s.L.length≤200
 rotate_left
 ·rw [if_neg (by omega),decide_eq_true (by omega),aA,if_pos rfl,decide_eq_false h2];simp
 rw [if_neg (by omega),decide_eq_false (by omega),aA,if_neg (by decide),decide_eq_true h1,decide_eq_true h2]
 obtain ⟨r,e,hr⟩:=nP (body:=po (lX s)) s.L.length (fun k=>Wu s.L k=true) false (fun k hk _=>by
  have lq:Wu s.L k=((bm (s.L[k]).Path&&(decide ((s.L[k]).Value.length≤1000)&&(decide (0≤(s.L[k]).Version)&&(decide ((s.L[k]).Version≤1000000000)&&(decide (0≤(s.L[k]).bJ)&&rZ s.L s.L[k])))))&&
   (decide (k=0)||match s.L[k-1]? with
    |some y=>lf y.Path (s.L[k]).Path
    |none=>false)):=by
   unfold Wu;rw [List.getElem?_eq_getElem hk];rfl
  rw [lq]
  have O8:k<(lX s).L.length:=by rw [hlen];exact hk
  have mf:(lX s).L[k]=toR s.L[k]:=List.getElem_map ..
  unfold po
  rw [if_pos (by omega),bt O8,mf]
  generalize hx:s.L[k]=x
  simp only [toR_path,toR_value,toR_version,toR_owner]
  rw [xW,aA]
  cases c1:bm x.Path with
  |false=>simp [aA]
  |true=>
  by_cases c2:x.Value.length≤1000
  rotate_left
  ·rw [if_neg (by decide),if_pos (by omega)];simp [aA,c2]
  by_cases c3:0≤x.Version
  rotate_left
  ·rw [if_neg (by decide),if_neg (by omega),if_pos (by omega)];simp [aA,c3]
  by_cases c4:x.Version≤1000000000
  rotate_left
  ·rw [if_neg (by decide),if_neg (by omega),if_neg (by omega),if_pos (by omega)];simp [aA,c4]
  by_cases c5:0≤x.bJ
  rotate_left
  ·rw [if_neg (by decide),if_neg (by omega),if_neg (by omega),if_neg (by omega),if_pos (by omega)];simp [aA,c5]
  rw [if_neg (by decide),if_neg (by omega),if_neg (by omega),if_neg (by omega),if_neg (by omega)]
  have UP: ∀(X:Option (Int⊕(Unit⊕Bool))),(rZ s.L x=true→X=some (.inl ((k+1:Nat):Int)))→(rZ s.L x=false→X=some (.inr (.inr false)))→True:=fun _ _ _=>trivial
  have hgp:(bd (oq x.Path) fun da=>
   if !decide (da.2=0) then
   if !decide (x.bJ=0) then
   some (Sum.inr (Sum.inr false))
   else
   some (Sum.inl (IntKind.wrap .i64 ((k:Int)+1)))
   else
   bd (vw (lX s) da.1) fun n0=>
   bd (
    if n0<0 then
    some true
    else
    ix (lX s).L n0 fun y2=>
    some (!decide (y2.bJ=0)):Option Bool) fun w3=>
   if w3 then
   some (Sum.inr (Sum.inr false))
   else
   some (Sum.inl (IntKind.wrap .i64 ((k:Int)+1))):Option (Int⊕(Unit⊕Bool)))=if rZ s.L x then some (.inl ((k+1:Nat):Int)) else some (.inr (.inr false)):=by
   rw [KO,aA,wrap64 (by omega) (by omega)]
   show (if !decide ((cM x.Path).2=0) then _ else bd (vw (lX s) (cM x.Path).1) _)=_
   unfold rZ
   by_cases h:(cM x.Path).2=0
   ·rw [decide_eq_true h,if_neg (by decide),if_pos h,Ex,aA]
    unfold QI
    by_cases hi:0≤qg (s.L.map (·.Path)) (cM x.Path).1
    ·have dn:=KP hi
     rw [List.length_map] at dn
     have akc:(qg (s.L.map (·.Path)) (cM x.Path).1).toNat<(lX s).L.length:=by rw [hlen];exact dn
     have RJ:(lX s).L[(qg (s.L.map (·.Path)) (cM x.Path).1).toNat]=toR s.L[(qg (s.L.map (·.Path)) (cM x.Path).1).toNat]:=List.getElem_map ..
     rw [if_neg (by omega),Am hi akc,RJ,aA,List.getElem?_eq_getElem dn,decide_eq_true hi]
     show (if !decide ((s.L[(qg (s.L.map (·.Path)) (cM x.Path).1).toNat]).bJ=0) then _ else _)=_
     generalize s.L[(qg (s.L.map (·.Path)) (cM x.Path).1).toNat]=y
     by_cases ho:y.bJ=0<;>simp [ho]
    ·rw [if_pos (by omega),aA,decide_eq_false hi];simp
   ·rw [decide_eq_false h,if_pos (by decide),if_neg h]
    by_cases ho:x.bJ=0<;>simp [ho]
  by_cases RE:k=0
  ·subst RE
   rw [if_neg (by omega),aA,if_neg (by decide)]
   refine ⟨fun h=> ?_,fun h=> ?_⟩
   ·refine hgp.trans ?_
    rw [if_pos (by simp only [Bool.and_eq_true] at h;exact h.1.2.2.2.2.2)]
   ·refine hgp.trans ?_
    rw [if_neg (by simp [c2,c3,c4,c5] at h;simpa using h)]
  ·have Tc:k-1<s.L.length:=by omega
   have akd:k-1<(lX s).L.length:=by rw [hlen];exact Tc
   have Ik:(lX s).L[k-1]=toR s.L[k-1]:=List.getElem_map ..
   rw [if_pos (by omega),wrap64 (by omega) (by omega),show (k:Int)-1=((k-1:Nat):Int) by omega,bt akd,Ik]
   simp only [toR_path]
   rw [MQ,aA,aA,List.getElem?_eq_getElem Tc]
   cases c7:lf (s.L[k-1]).Path x.Path with
   |false=>simp [RE,c7]
   |true=>
    rw [if_neg (by decide)]
    refine ⟨fun h=> ?_,fun h=> ?_⟩
    ·refine hgp.trans ?_
     rw [if_pos (by simp only [Bool.and_eq_true] at h;exact h.1.2.2.2.2.2)]
    ·refine hgp.trans ?_
     rw [if_neg (by simp [c2,c3,c4,c5,c7] at h;simpa using h)]) (by
  unfold po
  rw [if_neg (by omega)])
 rw [e,aA]
 have mb:(∀k,k<s.L.length→Wu s.L k=true)↔(List.range s.L.length).all (Wu s.L)=true:=by
  rw [List.all_eq_true]
  exact ⟨fun h k hk=>h k (List.mem_range.1 hk),fun h k hk=>h k (List.mem_range.2 hk)⟩
 rcases hr with ⟨rfl,h⟩|⟨rfl,k,hk,h⟩
 ·rw [mb.1 h]
  simp only [Ex,aA,Bool.and_true,Bool.true_and,Option.some.injEq,decide_eq_decide]
  exact Wv
 ·have:(List.range s.L.length).all (Wu s.L)=false:=by
   rw [Bool.eq_false_iff];intro hh;exact h (mb.2 hh k hk)
  rw [this];simp
theorem ZF (a b:ae):((decide (a.Path=b.Path))&&((decide (a.Value=b.Value))&&((decide (a.Version=b.Version))&&(decide (a.bJ=b.bJ)))))=decide (a=b):=by
 cases a;cases b;simp [Bool.eq_iff_iff]
theorem KQ (s t:ax) (hl:s.L.length<2^40):rC s t=some (decide (s.L=t.L)):=by
 unfold rC gO
 rw [Gt]
 by_cases he:s.L.length=t.L.length
 ·have:decide ((s.L.length:Int)=(t.L.length:Int))=true:=decide_eq_true (by omega)
  rw [this,if_neg (by decide),yO he (fun k ha hb=>by
   unfold fM
   rw [if_pos (by omega),bt ha,bt hb,ZF,wrap64 (by omega) (by omega)]
   by_cases hh:s.L[k]=t.L[k]<;>simp [hh]) (by
   unfold fM
   rw [if_neg (by omega)]),aA]
  by_cases O9:s.L=t.L<;>simp [O9]
 ·have:decide ((s.L.length:Int)=(t.L.length:Int))=false:=decide_eq_false (by omega)
  rw [this,if_pos (by decide)]
  have O9:s.L≠t.L:=fun e=>he (by rw [e])
  simp [O9]
end Dn.S
