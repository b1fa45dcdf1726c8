import Derived.Test.YtmdlghpieagfhaaGreatDnPReport
import Derived.Test.YtmdlghpieagfhaaGreatDnC
/-
  Certificates: what binds a leader. Conditions: none.
-/
open Go Dn
set_option linter.unusedVariables false
set_option linter.unusedSimpArgs false
namespace Dn.S
def Tj (c:Int) (x:List UInt8) (r:ab):Bool:=r.Has&&(decide (c<r.View)&&decide (r.Value=x))
def BE (c:Int) (L:List ab) (x:List UInt8):Nat:=(L.filter (Tj c x)).length
def lD (p:List UInt8×Int):MV:= .dr [.agg [.s p.1],.i .i64 p.2]
def PY:List (List UInt8×Int)→List UInt8→List (List UInt8×Int)
 |[],x=>[(x,1)]
 |p::r,x=>if p.1=x then (p.1,p.2+1)::r else p::PY r x
theorem Vr (E:List (List UInt8×Int)) (x:List UInt8) (h: ∀p∈E,0≤p.2∧p.2<2^40):
 qy (lv (E.map lD) [.s x] (.i .i64 0)) (b8 (E.map lD) [.s x]) (.i .i64 (IntKind.wrap .i64 (lE (E.map lD) [.s x]+1)))=(PY E x).map lD:=by
 induction E with
 |nil=>
  simp only [List.map_nil,b8,lv,List.length_nil,dD,decide_true,cond_true,List.nil_append,lE,List.getElem?_nil,PY,List.map_cons,lD]
  rw [wrap64 (by omega) (by omega)]
  rfl
 |cons p E ih=>
  have ih:=ih fun q hq=>h q (List.mem_cons_of_mem _ hq)
  have hk:iF (lD p)=[.s p.1]:=rfl
  have he:dK (iF (lD p)) [.s x]=decide (p.1=x):=by rw [hk];simp [dK,AW]
  simp only [List.map_cons,PY]
  by_cases hx:p.1=x
  ·have hb:=h p (by simp)
   have hm:b8 (lD p::E.map lD) [.s x]=0:=by simp only [b8,he,hx,decide_true,cond_true]
   have hn:lv (lD p::E.map lD) [.s x] (.i .i64 0)=lD p::E.map lD:=by
    unfold lv;rw [hm,dD];simp
   have hg:lE (lD p::E.map lD) [.s x]=p.2:=by unfold lE;rw [hm];rfl
   rw [hn,hm,hg,wrap64 (by omega) (by omega),if_pos hx]
   rfl
  ·have hm:b8 (lD p::E.map lD) [.s x]=b8 (E.map lD) [.s x]+1:=by simp only [b8,he,hx,decide_false,cond_false]
   have hn:lv (lD p::E.map lD) [.s x] (.i .i64 0)=lD p::lv (E.map lD) [.s x] (.i .i64 0):=by
    unfold lv;rw [hm,dD,dD,List.length_cons]
    by_cases hq:b8 (E.map lD) [.s x]=(E.map lD).length
    ·simp [hq]
    ·have XD: ¬(b8 (E.map lD) [.s x]+1=(E.map lD).length+1):=by omega
     simp only [hq,XD,decide_false,cond_false]
   have hg:lE (lD p::E.map lD) [.s x]=lE (E.map lD) [.s x]:=by unfold lE;rw [hm,List.getElem?_cons_succ]
   rw [hn,hm,hg,if_neg hx,List.map_cons,←ih]
   unfold qy
   rw [List.getElem?_cons_succ]
   cases (lv (E.map lD) [.s x] (.i .i64 0))[b8 (E.map lD) [.s x]]? <;>rfl
theorem Tk {E:List (List UInt8×Int)} {x:List UInt8}:(PY E x).map (·.1)=if x∈E.map (·.1) then E.map (·.1) else E.map (·.1)++[x]:=by
 induction E with
 |nil=>simp [PY]
 |cons p E ih=>
  simp only [PY]
  by_cases hx:p.1=x
  ·rw [if_pos hx];simp [hx]
  ·rw [if_neg hx,List.map_cons,ih]
   have: ¬(x=p.1):=fun h=>hx h.symm
   by_cases hm:x∈E.map (·.1)
   ·rw [if_pos hm,if_pos (by simp only [List.map_cons,List.mem_cons];exact .inr hm),List.map_cons]
   ·rw [if_neg hm,if_neg (by simp only [List.map_cons,List.mem_cons];rintro (h|h);exact this h;exact hm h)];rfl
theorem Py {E:List (List UInt8×Int)} {x:List UInt8} (h:(E.map (·.1)).Nodup):((PY E x).map (·.1)).Nodup:=by
 rw [Tk]
 split
 ·exact h
 ·rename_i hm
  rw [List.nodup_append]
  refine ⟨h,by simp,fun a ha b hb hab=> ?_⟩
  simp only [List.mem_singleton] at hb
  subst hb;subst hab;exact hm ha
theorem Vs {E:List (List UInt8×Int)} {x y:List UInt8} {n:Int} (h:(E.map (·.1)).Nodup):(y,n)∈PY E x↔(y≠x∧(y,n)∈E)∨(y=x∧((x,n-1)∈E∨(n=1∧x∉E.map (·.1)))):=by
 induction E with
 |nil=>simp [PY]
 |cons p E ih=>
  obtain ⟨h1,h2⟩:=List.nodup_cons.1 h
  have ih:=ih h2
  obtain ⟨k,m⟩:=p
  simp only [PY]
  simp only at h1
  by_cases hx:k=x
  ·subst hx
   rw [if_pos rfl]
   by_cases hy:y=k
   ·subst hy
    have dt: ∀n,(y,n)∉E:=fun n hm=>h1 (List.mem_map.2 ⟨_,hm,rfl⟩)
    simp only [List.mem_cons,Prod.mk.injEq,true_and,dt,or_false,ne_eq,not_true_eq_false,false_and,false_or,List.map_cons,true_or,not_true_eq_false,and_false]
    omega
   ·simp [hy]
  ·rw [if_neg hx]
   simp only [List.mem_cons,ih,Prod.mk.injEq,List.map_cons]
   by_cases hy:y=x
   ·subst hy
    simp [Ne.symm hx,fun h:y=k=>hx h.symm]
   ·simp only [hy,false_and,or_false,ne_eq,not_false_eq_true,true_and]
structure Gg (c:Int) (L:List ab) (E:List (List UInt8×Int)):Prop where
 nodup:(E.map (·.1)).Nodup
 mem: ∀x n,(x,n)∈E↔0<BE c L x∧n=(BE c L x:Int)
theorem Gg.nil (c:Int):Gg c [] []:=⟨by simp,by simp [BE]⟩
theorem Gg.skip {c:Int} {L:List ab} {E:List (List UInt8×Int)} {r:ab} (h:Gg c L E) (hr:(r.Has&&decide (c<r.View))=false):Gg c (L++[r]) E:=by
 refine ⟨h.nodup,fun x n=> ?_⟩
 have:BE c (L++[r]) x=BE c L x:=by
  unfold BE
  rw [List.filter_append]
  have:Tj c x r=false:=by unfold Tj;rw [←Bool.and_assoc,hr];rfl
  simp [this]
 rw [this];exact h.mem x n
theorem Gg.add {c:Int} {L:List ab} {E:List (List UInt8×Int)} {r:ab} (h:Gg c L E) (hr:(r.Has&&decide (c<r.View))=true):Gg c (L++[r]) (PY E r.Value):=by
 refine ⟨Py h.nodup,fun x n=> ?_⟩
 rw [Vs h.nodup]
 have hc:BE c (L++[r]) x=BE c L x+if r.Value=x then 1 else 0:=by
  unfold BE
  rw [List.filter_append]
  have:Tj c x r=decide (r.Value=x):=by unfold Tj;rw [←Bool.and_assoc,hr];rfl
  by_cases hx:r.Value=x<;>simp [this,hx]
 rw [hc]
 by_cases hx:x=r.Value
 ·subst hx
  simp only [if_true,ne_eq,not_true_eq_false,false_and,false_or,true_and,h.mem]
  have hk:r.Value∉E.map (·.1)↔BE c L r.Value=0:=by
   constructor
   ·intro hm
    refine Nat.eq_zero_of_not_pos fun hp=>hm ?_
    exact List.mem_map.2 ⟨_,(h.mem _ _).2 ⟨hp,rfl⟩,rfl⟩
   ·intro h0 hm
    obtain ⟨p,hp,he⟩:=List.mem_map.1 hm
    have:=((h.mem p.1 p.2).1 hp).1
    rw [he] at this;omega
  rw [hk]
  constructor
  ·rintro (⟨h1,h2⟩|⟨h1,h2⟩)
   ·exact ⟨by omega,by omega⟩
   ·exact ⟨by omega,by omega⟩
  ·rintro ⟨_,h2⟩
   by_cases h0:BE c L r.Value=0
   ·exact .inr ⟨by omega,h0⟩
   ·exact .inl ⟨by omega,by omega⟩
 ·simp only [hx,ne_eq,not_false_eq_true,true_and,false_and,or_false,if_neg (Ne.symm hx),Nat.add_zero]
  exact h.mem x n
theorem AZ (L:List ab) (w:Int×List UInt8) (hl:L.length<2^32):bT (Loop (mU L w) (([]:List MV),0)) fun es=> ∃E,es=E.map lD∧Gg w.1 L E:=by
 refine bT.loop (fun st=> ∃(k:Nat) (E:List (List UInt8×Int)),k≤L.length∧st=(E.map lD,(k:Int))∧Gg w.1 (L.take k) E) (fun st=>((L.length:Int)-st.2).toNat) ⟨0,[],Nat.zero_le _,rfl,.nil _⟩ ?_
 rintro st ⟨k,E,hk,rfl,hE⟩
 unfold mU
 by_cases du:k<L.length
 ·simp only [show ((k:Int)<(L.length:Int)) by omega,if_true,cW du]
  rw [wrap64 (x:=(k:Int)+1) (by omega) (by omega)]
  have IQ:L.take (k+1)=L.take k++[L[k]]:=by rw [List.take_add_one,List.getElem?_eq_getElem du];rfl
  have M9:(if L[k].Has then some (decide (w.1<L[k].View)) else some false:Option Bool)=some (L[k].Has&&decide (w.1<L[k].View)):=by cases L[k].Has<;>rfl
  rw [M9]
  simp only [bl]
  cases hh:L[k].Has&&decide (w.1<L[k].View) with
  |true=>
   rw [Vr E L[k].Value]
   ·simp only [if_true,bl]
    refine .mk ⟨⟨k+1,_,by omega,rfl,?_⟩,by simp only;omega⟩
    rw [IQ];exact hE.add hh
   ·intro p hp
    obtain ⟨h1,h2⟩:=(hE.mem p.1 p.2).1 hp
    have:BE w.1 (L.take k) p.1≤L.length:=by unfold BE;exact nD
    omega
  |false=>
   simp only [Bool.false_eq_true,if_false,bl]
   refine .mk ⟨⟨k+1,E,by omega,rfl,?_⟩,by simp only;omega⟩
   rw [IQ];exact hE.skip hh
 ·simp only [show¬((k:Int)<(L.length:Int)) by omega,if_false]
  refine .mk ⟨E,rfl,?_⟩
  rw [List.take_of_length_le (by omega)] at hE
  exact hE
end Dn.S
