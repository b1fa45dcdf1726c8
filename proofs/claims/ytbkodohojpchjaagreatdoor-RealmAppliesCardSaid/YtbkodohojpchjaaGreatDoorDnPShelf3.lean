import Derived.Test.YtbkodohojpchjaaGreatDoorDnPShelf2
/-
  Shelves: the document's word; ShelfMay. Conditions: none.
-/
set_option linter.unusedVariables false
set_option linter.unusedSimpArgs false
open List renaming getElem?_eq_getElem→c8,getElem_map→sh,length_map→AT,mem_range→By,range→IN
open Option.some renaming injEq→AI
open Bool renaming and_eq_true→AS
open Go.IntKind renaming wrap→BY
open Go Dn
namespace Dn.S
theorem abS {l:List (List UInt8)}{p:List UInt8}:mD l p=0↔l.head? =some p:=by
 cases l with
 |nil=>simp [mD]
 |cons a l=>
  unfold mD;rw [List.findIdx?_cons];by_cases h:a=p
  ·simp [h]
  ·simp only [h,decide_false,Bool.false_eq_true,if_false,List.head?_cons,AI,iff_false];cases hf:l.findIdx? (λx=>decide (x=p)) with
   |none=>simp
   |some k=>simp;omega
theorem A3 (L:List af):(L.map toR).map (·.Path)=L.map (·.Path):=by rw [List.map_map];rfl
theorem toR_path (x:af):(toR x).Path=x.Path:=rfl
theorem toR_value (x:af):(toR x).Value=x.Value:=rfl
theorem toR_version (x:af):(toR x).Version=x.Version:=rfl
theorem toR_owner (x:af):(toR x).bF=x.bF:=rfl
theorem Rq (s:aA)(hl:s.L.length<2^40):wM (ch s)=some (A0 s.L):=by
 have hlen:(ch s).L.length=s.L.length:=AT ..;have Df: ∀p,nh (ch s) p=some (mD (s.L.map (·.Path)) p):=by intro p;rw [abQ (ch s) p (by rw [hlen];exact hl)];show some (mD ((s.L.map toR).map (·.Path)) p)=_;rw [A3]
 unfold wM A0;rw [hlen];by_cases h1:1<=s.L.length;rotate_left
 ·rw [if_pos (by omega),al,if_pos rfl,decide_eq_false h1];rfl
 by_cases h2:s.L.length<=200;rotate_left
 ·rw [if_neg (by omega),decide_eq_true (by omega),al,if_pos rfl,decide_eq_false h2];simp
 rw [if_neg (by omega),decide_eq_false (by omega),al,if_neg (by decide),decide_eq_true h1,decide_eq_true h2];obtain ⟨r,e,hr⟩:=rI (body:=qY (ch s)) s.L.length (λk=>okK s.L k=true) false (λk hk _=>by
  have kJ:okK s.L k=((bn (s.L[k]).Path&&(decide ((s.L[k]).Value.length<=1000)&&(decide (0<=(s.L[k]).Version)&&(decide ((s.L[k]).Version<=1000000000)&&(decide (0<=(s.L[k]).bF)&&uv s.L s.L[k])))))&& (decide (k=0)||match s.L[k-1]? with
    |some y=>kD y.Path (s.L[k]).Path
    |none=>false)):=by
   unfold okK;rw [c8 hk];rfl
  rw [kJ];have KC:k<(ch s).L.length:=by rw [hlen];exact hk
  have lX:(ch s).L[k]=toR s.L[k]:=sh ..;unfold qY;rw [if_pos (by omega),aP KC,lX];generalize hx:s.L[k]=x;simp only [toR_path,toR_value,toR_version,toR_owner];rw [mC,al];cases c1:bn x.Path with
  |false=>simp [al]
  |true=>
  by_cases c2:x.Value.length<=1000;rotate_left
  ·rw [if_neg (by decide),if_pos (by omega)];simp [al,c2]
  by_cases c3:0<=x.Version;rotate_left
  ·rw [if_neg (by decide),if_neg (by omega),if_pos (by omega)];simp [al,c3]
  by_cases c4:x.Version<=1000000000;rotate_left
  ·rw [if_neg (by decide),if_neg (by omega),if_neg (by omega),if_pos (by omega)];simp [al,c4]
  by_cases c5:0<=x.bF;rotate_left
  ·rw [if_neg (by decide),if_neg (by omega),if_neg (by omega),if_neg (by omega),if_pos (by omega)];simp [al,c5]
  rw [if_neg (by decide),if_neg (by omega),if_neg (by omega),if_neg (by omega),if_neg (by omega)];have S0: ∀(X:Option (Int⊕(Unit⊕Bool))),(uv s.L x=true->X=some (.inl ((k+1:Nat):Int)))->(uv s.L x=false->X=some (.inr (.inr false)))->True:=λ_ _ _=>trivial;have hgp:(bd (jH x.Path) λca=>
   if !decide (ca.2=0) then
   if !decide (x.bF=0) then
   some (Sum.inr (Sum.inr false))
   else
   some (Sum.inl (BY .i64 ((k:Int)+1)))
   else
   bd (nh (ch s) ca.1) λgO=>
   bd (if gO<0 then
    some true
    else
    ix (ch s).L gO λy2=>
    some (!decide (y2.bF=0)):Option Bool) λw3=>
   if w3 then
   some (Sum.inr (Sum.inr false))
   else
   some (Sum.inl (BY .i64 ((k:Int)+1))):Option (Int⊕(Unit⊕Bool)))=if uv s.L x then some (.inl ((k+1:Nat):Int)) else some (.inr (.inr false)):=by
   rw [sR,al,wrap64 (by omega) (by omega)];show (if !decide ((bS x.Path).2=0) then _ else bd (nh (ch s) (bS x.Path).1) _)=_;unfold uv;by_cases h:(bS x.Path).2=0
   ·rw [decide_eq_true h,if_neg (by decide),if_pos h,Df,al];unfold VL;by_cases hi:0<=mD (s.L.map (·.Path)) (bS x.Path).1
    ·have dK:=FL hi;rw [AT] at dK;have ai1:(mD (s.L.map (·.Path)) (bS x.Path).1).toNat<(ch s).L.length:=by rw [hlen];exact dK
     have S4:(ch s).L[(mD (s.L.map (·.Path)) (bS x.Path).1).toNat]=toR s.L[(mD (s.L.map (·.Path)) (bS x.Path).1).toNat]:=sh ..;rw [if_neg (by omega),wh hi ai1,S4,al,c8 dK,decide_eq_true hi];show (if !decide ((s.L[(mD (s.L.map (·.Path)) (bS x.Path).1).toNat]).bF=0) then _ else _)=_;generalize s.L[(mD (s.L.map (·.Path)) (bS x.Path).1).toNat]=y;by_cases ho:y.bF=0<;>simp [ho]
    ·rw [if_pos (by omega),al,decide_eq_false hi];simp
   ·rw [decide_eq_false h,if_pos (by decide),if_neg h];by_cases ho:x.bF=0<;>simp [ho]
  by_cases WG:k=0
  ·subst WG;rw [if_neg (by omega),al,if_neg (by decide)];refine ⟨λh=> ?_,λh=> ?_⟩
   ·refine hgp.trans ?_;rw [if_pos (by simp only [AS] at h;exact h.1.2.2.2.2.2)]
   ·refine hgp.trans ?_;rw [if_neg (by simp [c2,c3,c4,c5] at h;simpa using h)]
  ·have Yk:k-1<s.L.length:=by omega
   have aqz:k-1<(ch s).L.length:=by rw [hlen];exact Yk
   have LO:(ch s).L[k-1]=toR s.L[k-1]:=sh ..;rw [if_pos (by omega),wrap64 (by omega) (by omega),show (k:Int)-1=((k-1:Nat):Int) by omega,aP aqz,LO];simp only [toR_path];rw [AZ,al,al,c8 Yk];cases c7:kD (s.L[k-1]).Path x.Path with
   |false=>simp [WG,c7]
   |true=>
    rw [if_neg (by decide)];refine ⟨λh=> ?_,λh=> ?_⟩
    ·refine hgp.trans ?_;rw [if_pos (by simp only [AS] at h;exact h.1.2.2.2.2.2)]
    ·refine hgp.trans ?_;rw [if_neg (by simp [c2,c3,c4,c5,c7] at h;simpa using h)]) (by
  unfold qY;rw [if_neg (by omega)])
 rw [e,al];have lW:(∀k,k<s.L.length->okK s.L k=true)↔(IN s.L.length).all (okK s.L)=true:=by rw [List.all_eq_true];exact ⟨λh k hk=>h k (By.1 hk),λh k hk=>h k (By.2 hk)⟩
 rcases hr with ⟨rfl,h⟩|⟨rfl,k,hk,h⟩
 ·rw [lW.1 h];simp only [Df,al,Bool.and_true,Bool.true_and,AI,decide_eq_decide];exact abS
 ·have:(IN s.L.length).all (okK s.L)=false:=by rw [Bool.eq_false_iff];intro hh;exact h (lW.2 hh k hk)
  rw [this];simp
theorem ae2 (a b:af):((decide (a.Path=b.Path))&&((decide (a.Value=b.Value))&&((decide (a.Version=b.Version))&&(decide (a.bF=b.bF)))))=decide (a=b):=by cases a;cases b;simp [Bool.eq_iff_iff]
theorem OJ (s t:aA)(hl:s.L.length<2^40):tB s t=some (decide (s.L=t.L)):=by
 unfold tB iZ;rw [GC];by_cases he:s.L.length=t.L.length
 ·have:decide ((s.L.length:Int)=(t.L.length:Int))=true:=decide_eq_true (by omega);rw [this,if_neg (by decide),xr he (λk ha hb=>by
   unfold gQ;rw [if_pos (by omega),aP ha,aP hb,ae2,wrap64 (by omega) (by omega)];by_cases hh:s.L[k]=t.L[k]<;>simp [hh]) (by
   unfold gQ;rw [if_neg (by omega)]),al]
  by_cases TW:s.L=t.L<;>simp [TW]
 ·have:decide ((s.L.length:Int)=(t.L.length:Int))=false:=decide_eq_false (by omega);rw [this,if_pos (by decide)];have TW:s.L≠t.L:=λe=>he (by rw [e]);simp [TW]
end Dn.S
