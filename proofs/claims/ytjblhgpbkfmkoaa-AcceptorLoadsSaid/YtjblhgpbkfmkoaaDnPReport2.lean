import Derived.Test.YtjblhgpbkfmkoaaDnPReport
import Derived.Test.YtjblhgpbkfmkoaaDnC
/-
  Certificates: what binds a leader. Conditions: none.
-/
open Go Dn
set_option linter.unusedVariables false
set_option linter.unusedSimpArgs false
namespace Dn.S
def T4 (b:Int×List UInt8) (r:aw):Int×List UInt8:=if (O3 r.Proof).2.2=true∧b.1<(O3 r.Proof).1 then ((O3 r.Proof).1,(O3 r.Proof).2.1) else b
def DP (L:List aw):Int×List UInt8:=L.foldl T4 (-1,[])
def zt (c:Int) (x:List UInt8) (r:aw):Bool:=r.Has&&(decide (c<r.View)&&decide (r.Value=x))
def o9 (c:Int) (L:List aw) (x:List UInt8):Nat:=(L.filter (zt c x)).length
theorem L0 {c:Int} {x y:List UInt8} (h:x≠y) (L:List aw):o9 c L x+o9 c L y≤L.length:=by
 unfold o9
 induction L with
 |nil=>simp
 |cons r L ih=>
  simp only [List.filter_cons,List.length_cons]
  have: ¬(zt c x r=true∧zt c y r=true):=by
   rintro ⟨h1,h2⟩
   simp only [zt,Bool.and_eq_true,decide_eq_true_eq] at h1 h2
   exact h (h1.2.2.symm.trans h2.2.2)
  cases h1:zt c x r<;>cases h2:zt c y r<;>simp [h1,h2] at this⊢ <;>omega
def fS (p:List UInt8×Int):MV:= .cN [.agg [.s p.1],.i .i64 p.2]
def I0:List (List UInt8×Int)→List UInt8→List (List UInt8×Int)
 |[],x=>[(x,1)]
 |p::r,x=>if p.1=x then (p.1,p.2+1)::r else p::I0 r x
theorem NZ (E:List (List UInt8×Int)) (x:List UInt8) (h: ∀p∈E,0≤p.2∧p.2<2^40):
 rF (jZ (E.map fS) [.s x] (.i .i64 0)) (cF (E.map fS) [.s x]) (.i .i64 (IntKind.wrap .i64 (oN (E.map fS) [.s x]+1)))=(I0 E x).map fS:=by
 induction E with
 |nil=>
  simp only [List.map_nil,cF,jZ,List.length_nil,cm,decide_true,cond_true,List.nil_append,oN,List.getElem?_nil,I0,List.map_cons,fS]
  rw [wrap64 (by omega) (by omega)]
  rfl
 |cons p E ih=>
  have ih:=ih fun q hq=>h q (List.mem_cons_of_mem _ hq)
  have hk:jO (fS p)=[.s p.1]:=rfl
  have he:dr (jO (fS p)) [.s x]=decide (p.1=x):=by rw [hk];simp [dr,v7]
  simp only [List.map_cons,I0]
  by_cases hx:p.1=x
  ·have hb:=h p (by simp)
   have hm:cF (fS p::E.map fS) [.s x]=0:=by simp only [cF,he,hx,decide_true,cond_true]
   have hn:jZ (fS p::E.map fS) [.s x] (.i .i64 0)=fS p::E.map fS:=by
    unfold jZ;rw [hm,cm];simp
   have hg:oN (fS p::E.map fS) [.s x]=p.2:=by unfold oN;rw [hm];rfl
   rw [hn,hm,hg,wrap64 (by omega) (by omega),if_pos hx]
   rfl
  ·have hm:cF (fS p::E.map fS) [.s x]=cF (E.map fS) [.s x]+1:=by simp only [cF,he,hx,decide_false,cond_false]
   have hn:jZ (fS p::E.map fS) [.s x] (.i .i64 0)=fS p::jZ (E.map fS) [.s x] (.i .i64 0):=by
    unfold jZ;rw [hm,cm,cm,List.length_cons]
    by_cases hq:cF (E.map fS) [.s x]=(E.map fS).length
    ·simp [hq]
    ·have Qf: ¬(cF (E.map fS) [.s x]+1=(E.map fS).length+1):=by omega
     simp only [hq,Qf,decide_false,cond_false]
   have hg:oN (fS p::E.map fS) [.s x]=oN (E.map fS) [.s x]:=by unfold oN;rw [hm,List.getElem?_cons_succ]
   rw [hn,hm,hg,if_neg hx,List.map_cons,←ih]
   unfold rF
   rw [List.getElem?_cons_succ]
   cases (jZ (E.map fS) [.s x] (.i .i64 0))[cF (E.map fS) [.s x]]? <;>rfl
theorem L1 {E:List (List UInt8×Int)} {x:List UInt8}:(I0 E x).map (·.1)=if x∈E.map (·.1) then E.map (·.1) else E.map (·.1)++[x]:=by
 induction E with
 |nil=>simp [I0]
 |cons p E ih=>
  simp only [I0]
  by_cases hx:p.1=x
  ·rw [if_pos hx];simp [hx]
  ·rw [if_neg hx,List.map_cons,ih]
   have: ¬(x=p.1):=fun h=>hx h.symm
   by_cases hm:x∈E.map (·.1)
   ·rw [if_pos hm,if_pos (by simp only [List.map_cons,List.mem_cons];exact .inr hm),List.map_cons]
   ·rw [if_neg hm,if_neg (by simp only [List.map_cons,List.mem_cons];rintro (h|h);exact this h;exact hm h)];rfl
theorem It {E:List (List UInt8×Int)} {x:List UInt8} (h:(E.map (·.1)).Nodup):((I0 E x).map (·.1)).Nodup:=by
 rw [L1]
 split
 ·exact h
 ·rename_i hm
  rw [List.nodup_append]
  refine ⟨h,by simp,fun a ha b hb W4=> ?_⟩
  simp only [List.mem_singleton] at hb
  subst hb;subst W4;exact hm ha
theorem N0 {E:List (List UInt8×Int)} {x y:List UInt8} {n:Int} (h:(E.map (·.1)).Nodup):(y,n)∈I0 E x↔(y≠x∧(y,n)∈E)∨(y=x∧((x,n-1)∈E∨(n=1∧x∉E.map (·.1)))):=by
 induction E with
 |nil=>simp [I0]
 |cons p E ih=>
  obtain ⟨h1,h2⟩:=List.nodup_cons.1 h
  have ih:=ih h2
  obtain ⟨k,m⟩:=p
  simp only [I0]
  simp only at h1
  by_cases hx:k=x
  ·subst hx
   rw [if_pos rfl]
   by_cases hy:y=k
   ·subst hy
    have cz: ∀n,(y,n)∉E:=fun n hm=>h1 (List.mem_map.2 ⟨_,hm,rfl⟩)
    simp only [List.mem_cons,Prod.mk.injEq,true_and,cz,or_false,ne_eq,not_true_eq_false,false_and,false_or,List.map_cons,true_or,not_true_eq_false,and_false]
    omega
   ·simp [hy]
  ·rw [if_neg hx]
   simp only [List.mem_cons,ih,Prod.mk.injEq,List.map_cons]
   by_cases hy:y=x
   ·subst hy
    simp [Ne.symm hx,fun h:y=k=>hx h.symm]
   ·simp only [hy,false_and,or_false,ne_eq,not_false_eq_true,true_and]
structure zu (c:Int) (L:List aw) (E:List (List UInt8×Int)):Prop where
 nodup:(E.map (·.1)).Nodup
 mem: ∀x n,(x,n)∈E↔0<o9 c L x∧n=(o9 c L x:Int)
theorem zu.nil (c:Int):zu c [] []:=⟨by simp,by simp [o9]⟩
theorem zu.skip {c:Int} {L:List aw} {E:List (List UInt8×Int)} {r:aw} (h:zu c L E) (hr:(r.Has&&decide (c<r.View))=false):zu c (L++[r]) E:=by
 refine ⟨h.nodup,fun x n=> ?_⟩
 have:o9 c (L++[r]) x=o9 c L x:=by
  unfold o9
  rw [List.filter_append]
  have:zt c x r=false:=by unfold zt;rw [←Bool.and_assoc,hr];rfl
  simp [this]
 rw [this];exact h.mem x n
theorem zu.add {c:Int} {L:List aw} {E:List (List UInt8×Int)} {r:aw} (h:zu c L E) (hr:(r.Has&&decide (c<r.View))=true):zu c (L++[r]) (I0 E r.Value):=by
 refine ⟨It h.nodup,fun x n=> ?_⟩
 rw [N0 h.nodup]
 have hc:o9 c (L++[r]) x=o9 c L x+if r.Value=x then 1 else 0:=by
  unfold o9
  rw [List.filter_append]
  have:zt c x r=decide (r.Value=x):=by unfold zt;rw [←Bool.and_assoc,hr];rfl
  by_cases hx:r.Value=x<;>simp [this,hx]
 rw [hc]
 by_cases hx:x=r.Value
 ·subst hx
  simp only [if_true,ne_eq,not_true_eq_false,false_and,false_or,true_and,h.mem]
  have hk:r.Value∉E.map (·.1)↔o9 c L r.Value=0:=by
   constructor
   ·intro hm
    refine Nat.eq_zero_of_not_pos fun hp=>hm ?_
    exact List.mem_map.2 ⟨_,(h.mem _ _).2 ⟨hp,rfl⟩,rfl⟩
   ·intro h0 hm
    obtain ⟨p,hp,he⟩:=List.mem_map.1 hm
    have:=((h.mem p.1 p.2).1 hp).1
    rw [he] at this;omega
  rw [hk]
  constructor
  ·rintro (⟨h1,h2⟩|⟨h1,h2⟩)
   ·exact ⟨by omega,by omega⟩
   ·exact ⟨by omega,by omega⟩
  ·rintro ⟨_,h2⟩
   by_cases h0:o9 c L r.Value=0
   ·exact .inr ⟨by omega,h0⟩
   ·exact .inl ⟨by omega,by omega⟩
 ·simp only [hx,ne_eq,not_false_eq_true,true_and,false_and,or_false,if_neg (Ne.symm hx),Nat.add_zero]
  exact h.mem x n
theorem tR (L:List aw) (w:Int×List UInt8) (hl:L.length<2^32):bE (Loop (dV L w) (([]:List MV),0)) fun es=> ∃E,es=E.map fS∧zu w.1 L E:=by
 refine bE.loop (fun st=> ∃(k:Nat) (E:List (List UInt8×Int)),k≤L.length∧st=(E.map fS,(k:Int))∧zu w.1 (L.take k) E) (fun st=>((L.length:Int)-st.2).toNat) ⟨0,[],Nat.zero_le _,rfl,.nil _⟩ ?_
 rintro st ⟨k,E,hk,rfl,hE⟩
 unfold dV
 by_cases dE:k<L.length
 ·simp only [show ((k:Int)<(L.length:Int)) by omega,if_true,cG dE]
  rw [wrap64 (x:=(k:Int)+1) (by omega) (by omega)]
  have IQ:L.take (k+1)=L.take k++[L[k]]:=by rw [List.take_add_one,List.getElem?_eq_getElem dE];rfl
  have Gd:(if L[k].Has then some (decide (w.1<L[k].View)) else some false:Option Bool)=some (L[k].Has&&decide (w.1<L[k].View)):=by cases L[k].Has<;>rfl
  rw [Gd]
  simp only [aA]
  cases hh:L[k].Has&&decide (w.1<L[k].View) with
  |true=>
   rw [NZ E L[k].Value]
   ·simp only [if_true,aA]
    refine .mk ⟨⟨k+1,_,by omega,rfl,?_⟩,by simp only;omega⟩
    rw [IQ];exact hE.add hh
   ·intro p hp
    obtain ⟨h1,h2⟩:=(hE.mem p.1 p.2).1 hp
    have:o9 w.1 (L.take k) p.1≤L.length:=by unfold o9;exact p7
    omega
  |false=>
   simp only [Bool.false_eq_true,if_false,aA]
   refine .mk ⟨⟨k+1,E,by omega,rfl,?_⟩,by simp only;omega⟩
   rw [IQ];exact hE.skip hh
 ·simp only [show¬((k:Int)<(L.length:Int)) by omega,if_false]
  refine .mk ⟨E,rfl,?_⟩
  rw [List.take_of_length_le (by omega)] at hE
  exact hE
def FM (V:Int) (L:List aw) (res:List UInt8×Bool):Prop:=
 (∃x,V≤(o9 (DP L).1 L x:Int)∧res=(x,true))∨((∀x,(o9 (DP L).1 L x:Int)<V)∧res=((DP L).2,decide (0≤(DP L).1)))
theorem FM.uniq {V:Int} {L:List aw} {r r':List UInt8×Bool} (hV:(L.length:Int)<2 *V) (h:FM V L r) (h':FM V L r'):r=r':=by
 rcases h with ⟨x,h1,rfl⟩|⟨h1,rfl⟩<;>rcases h' with ⟨y,h2,rfl⟩|⟨h2,rfl⟩
 ·by_cases Gn:x=y
  ·rw [Gn]
  ·have:=L0 (c:=(DP L).1) Gn L
   omega
 ·have:=h2 x;omega
 ·have:=h1 y;omega
 ·rfl
end Dn.S
