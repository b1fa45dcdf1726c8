import Derived.Test.YtjblhgpbkfmkoaaDnPReport
import Derived.Test.YtjblhgpbkfmkoaaDnC
/-
  Certificates: what binds a leader. Conditions: none.
-/
open Go Dn
set_option linter.unusedVariables false
set_option linter.unusedSimpArgs false
namespace Dn.S
def qy (b:Int×List UInt8) (r:al):Int×List UInt8:=if (xM r.Proof).2.2=true∧b.1<(xM r.Proof).1 then ((xM r.Proof).1,(xM r.Proof).2.1) else b
def cS (L:List al):Int×List UInt8:=L.foldl qy (-1,[])
theorem PB {b:Int×List UInt8} {r:al} (h: -1≤b.1): -1≤(qy b r).1:=by
 unfold qy;split
 ·rename_i h2;simp only;omega
 ·exact h
theorem RR (L:List al): ∀b:Int×List UInt8,-1≤b.1→ -1≤(L.foldl qy b).1:=by
 induction L with
 |nil=>intro b h;exact h
 |cons r L ih=>intro b h;exact ih _ (PB h)
theorem VP (L:List al) (hl:L.length<2^32):Loop (dO L) ((-1),([]:List UInt8),0)=some (cS L):=by
 refine aO.eq (aO.count (fun k=>(((L.take k).foldl qy (-1,[])).1,((L.take k).foldl qy (-1,[])).2,(k:Int))) L.length (fun _=>True) (by simp) trivial (fun k hk _=> ?_) (fun _=> ?_))
 ·unfold dO
  have Hy:=RR (L.take k) (-1,[]) (by simp)
  simp only [show ((k:Int)<(L.length:Int)) by omega,if_true,bO hk,Dd,aq]
  rw [wrap64 (by omega) (by omega),iT hk]
  generalize (L.take k).foldl qy (-1,[])=b at Hy
  unfold qy
  by_cases c:b.1<(xM L[k].Proof).1
  ·rw [if_pos c]
   have dk:0<L[k].Proof.length:=by
    refine Nat.pos_of_ne_zero fun h0=> ?_
    rw [List.eq_nil_of_length_eq_zero h0] at c
    simp only [xM] at c;omega
   rw [jO dk]
   have h2:(xM L[k].Proof).2.2=true∧(xM L[k].Proof).2.1=L[k].Proof[0].Value:=by
    revert dk
    cases L[k].Proof with
    |nil=>intro h;simp at h
    |cons x y=>intro h;exact ⟨rfl,rfl⟩
   rw [if_pos ⟨h2.1,c⟩]
   simp only [aq,h2.2]
   exact .mk ⟨rfl,trivial⟩
  ·rw [if_neg c,if_neg (fun h=>c h.2)]
   simp only [aq]
   exact .mk ⟨rfl,trivial⟩
 ·unfold dO
  simp only [show¬((L.length:Int)<(L.length:Int)) by omega,if_false,List.take_length]
  exact .mk rfl
theorem PC (L:List al) (hl:L.length<2^32):Loop (kR L) ((-1),([]:List UInt8),0)=some (cS L):=by
 refine aO.eq (aO.count (fun k=>(((L.take k).foldl qy (-1,[])).1,((L.take k).foldl qy (-1,[])).2,(k:Int))) L.length (fun _=>True) (by simp) trivial (fun k hk _=> ?_) (fun _=> ?_))
 ·unfold kR
  simp only [show ((k:Int)<(L.length:Int)) by omega,if_true,bO hk,GH,aq]
  rw [wrap64 (by omega) (by omega),iT hk]
  generalize (L.take k).foldl qy (-1,[])=b
  unfold qy
  cases h2:(xM L[k].Proof).2.2 with
  |false=>
   simp only [Bool.false_eq_true,if_false,aq,false_and]
   exact .mk ⟨rfl,trivial⟩
  |true=>
   by_cases c:b.1<(xM L[k].Proof).1
   ·simp only [if_true,c,decide_true,aq,true_and];exact .mk ⟨rfl,trivial⟩
   ·simp only [if_true,c,decide_false,aq,true_and,Bool.false_eq_true,if_false];exact .mk ⟨rfl,trivial⟩
 ·unfold kR
  simp only [show¬((L.length:Int)<(L.length:Int)) by omega,if_false,List.take_length]
  exact .mk rfl
def sN (c:Int) (x:List UInt8) (r:al):Bool:=r.Has&&(decide (c<r.View)&&decide (r.Value=x))
def gu (c:Int) (L:List al) (x:List UInt8):Nat:=(L.filter (sN c x)).length
theorem GM {c:Int} {x y:List UInt8} (h:x≠y) (L:List al):gu c L x+gu c L y≤L.length:=by
 unfold gu
 induction L with
 |nil=>simp
 |cons r L ih=>
  simp only [List.filter_cons,List.length_cons]
  have: ¬(sN c x r=true∧sN c y r=true):=by
   rintro ⟨h1,h2⟩
   simp only [sN,Bool.and_eq_true,decide_eq_true_eq] at h1 h2
   exact h (h1.2.2.symm.trans h2.2.2)
  cases h1:sN c x r<;>cases h2:sN c y r<;>simp [h1,h2] at this⊢ <;>omega
def fP (p:List UInt8×Int):MV:= .dy [.agg [.s p.1],.i .i64 p.2]
def Mk:List (List UInt8×Int)→List UInt8→List (List UInt8×Int)
 |[],x=>[(x,1)]
 |p::r,x=>if p.1=x then (p.1,p.2+1)::r else p::Mk r x
theorem RS (E:List (List UInt8×Int)) (x:List UInt8) (h: ∀p∈E,0≤p.2∧p.2<2^40):
 lC (gz (E.map fP) [.s x] (.i .i64 0)) (bE (E.map fP) [.s x]) (.i .i64 (IntKind.wrap .i64 (hU (E.map fP) [.s x]+1)))=(Mk E x).map fP:=by
 induction E with
 |nil=>
  simp only [List.map_nil,bE,gz,List.length_nil,cw,decide_true,cond_true,List.nil_append,hU,List.getElem?_nil,Mk,List.map_cons,fP]
  rw [wrap64 (by omega) (by omega)]
  rfl
 |cons p E ih=>
  have ih:=ih fun q hq=>h q (List.mem_cons_of_mem _ hq)
  have hk:eF (fP p)=[.s p.1]:=rfl
  have he:cH (eF (fP p)) [.s x]=decide (p.1=x):=by rw [hk];simp [cH,vZ]
  simp only [List.map_cons,Mk]
  by_cases hx:p.1=x
  ·have hb:=h p (by simp)
   have hm:bE (fP p::E.map fP) [.s x]=0:=by simp only [bE,he,hx,decide_true,cond_true]
   have hn:gz (fP p::E.map fP) [.s x] (.i .i64 0)=fP p::E.map fP:=by
    unfold gz;rw [hm,cw];simp
   have hg:hU (fP p::E.map fP) [.s x]=p.2:=by unfold hU;rw [hm];rfl
   rw [hn,hm,hg,wrap64 (by omega) (by omega),if_pos hx]
   rfl
  ·have hm:bE (fP p::E.map fP) [.s x]=bE (E.map fP) [.s x]+1:=by simp only [bE,he,hx,decide_false,cond_false]
   have hn:gz (fP p::E.map fP) [.s x] (.i .i64 0)=fP p::gz (E.map fP) [.s x] (.i .i64 0):=by
    unfold gz;rw [hm,cw,cw,List.length_cons]
    by_cases hq:bE (E.map fP) [.s x]=(E.map fP).length
    ·simp [hq]
    ·have Uf: ¬(bE (E.map fP) [.s x]+1=(E.map fP).length+1):=by omega
     simp only [hq,Uf,decide_false,cond_false]
   have hg:hU (fP p::E.map fP) [.s x]=hU (E.map fP) [.s x]:=by unfold hU;rw [hm,List.getElem?_cons_succ]
   rw [hn,hm,hg,if_neg hx,List.map_cons,←ih]
   unfold lC
   rw [List.getElem?_cons_succ]
   cases (gz (E.map fP) [.s x] (.i .i64 0))[bE (E.map fP) [.s x]]? <;>rfl
theorem PD {E:List (List UInt8×Int)} {x:List UInt8}:(Mk E x).map (·.1)=if x∈E.map (·.1) then E.map (·.1) else E.map (·.1)++[x]:=by
 induction E with
 |nil=>simp [Mk]
 |cons p E ih=>
  simp only [Mk]
  by_cases hx:p.1=x
  ·rw [if_pos hx];simp [hx]
  ·rw [if_neg hx,List.map_cons,ih]
   have: ¬(x=p.1):=fun h=>hx h.symm
   by_cases hm:x∈E.map (·.1)
   ·rw [if_pos hm,if_pos (by simp only [List.map_cons,List.mem_cons];exact .inr hm),List.map_cons]
   ·rw [if_neg hm,if_neg (by simp only [List.map_cons,List.mem_cons];rintro (h|h);exact this h;exact hm h)];rfl
theorem LH {E:List (List UInt8×Int)} {x:List UInt8} (h:(E.map (·.1)).Nodup):((Mk E x).map (·.1)).Nodup:=by
 rw [PD]
 split
 ·exact h
 ·rename_i hm
  rw [List.nodup_append]
  refine ⟨h,by simp,fun a ha b hb hab=> ?_⟩
  simp only [List.mem_singleton] at hb
  subst hb;subst hab;exact hm ha
theorem RT {E:List (List UInt8×Int)} {x y:List UInt8} {n:Int} (h:(E.map (·.1)).Nodup):(y,n)∈Mk E x↔(y≠x∧(y,n)∈E)∨(y=x∧((x,n-1)∈E∨(n=1∧x∉E.map (·.1)))):=by
 induction E with
 |nil=>simp [Mk]
 |cons p E ih=>
  obtain ⟨h1,h2⟩:=List.nodup_cons.1 h
  have ih:=ih h2
  obtain ⟨k,m⟩:=p
  simp only [Mk]
  simp only at h1
  by_cases hx:k=x
  ·subst hx
   rw [if_pos rfl]
   by_cases hy:y=k
   ·subst hy
    have cm: ∀n,(y,n)∉E:=fun n hm=>h1 (List.mem_map.2 ⟨_,hm,rfl⟩)
    simp only [List.mem_cons,Prod.mk.injEq,true_and,cm,or_false,ne_eq,not_true_eq_false,false_and,false_or,List.map_cons,true_or,not_true_eq_false,and_false]
    omega
   ·simp [hy]
  ·rw [if_neg hx]
   simp only [List.mem_cons,ih,Prod.mk.injEq,List.map_cons]
   by_cases hy:y=x
   ·subst hy
    simp [Ne.symm hx,fun h:y=k=>hx h.symm]
   ·simp only [hy,false_and,or_false,ne_eq,not_false_eq_true,true_and]
structure B2 (c:Int) (L:List al) (E:List (List UInt8×Int)):Prop where
 nodup:(E.map (·.1)).Nodup
 mem: ∀x n,(x,n)∈E↔0<gu c L x∧n=(gu c L x:Int)
theorem B2.nil (c:Int):B2 c [] []:=⟨by simp,by simp [gu]⟩
theorem B2.skip {c:Int} {L:List al} {E:List (List UInt8×Int)} {r:al} (h:B2 c L E) (hr:(r.Has&&decide (c<r.View))=false):B2 c (L++[r]) E:=by
 refine ⟨h.nodup,fun x n=> ?_⟩
 have:gu c (L++[r]) x=gu c L x:=by
  unfold gu
  rw [List.filter_append]
  have:sN c x r=false:=by unfold sN;rw [←Bool.and_assoc,hr];rfl
  simp [this]
 rw [this];exact h.mem x n
theorem B2.add {c:Int} {L:List al} {E:List (List UInt8×Int)} {r:al} (h:B2 c L E) (hr:(r.Has&&decide (c<r.View))=true):B2 c (L++[r]) (Mk E r.Value):=by
 refine ⟨LH h.nodup,fun x n=> ?_⟩
 rw [RT h.nodup]
 have hc:gu c (L++[r]) x=gu c L x+if r.Value=x then 1 else 0:=by
  unfold gu
  rw [List.filter_append]
  have:sN c x r=decide (r.Value=x):=by unfold sN;rw [←Bool.and_assoc,hr];rfl
  by_cases hx:r.Value=x<;>simp [this,hx]
 rw [hc]
 by_cases hx:x=r.Value
 ·subst hx
  simp only [if_true,ne_eq,not_true_eq_false,false_and,false_or,true_and,h.mem]
  have hk:r.Value∉E.map (·.1)↔gu c L r.Value=0:=by
   constructor
   ·intro hm
    refine Nat.eq_zero_of_not_pos fun hp=>hm ?_
    exact List.mem_map.2 ⟨_,(h.mem _ _).2 ⟨hp,rfl⟩,rfl⟩
   ·intro h0 hm
    obtain ⟨p,hp,he⟩:=List.mem_map.1 hm
    have:=((h.mem p.1 p.2).1 hp).1
    rw [he] at this;omega
  rw [hk]
  constructor
  ·rintro (⟨h1,h2⟩|⟨h1,h2⟩)
   ·exact ⟨by omega,by omega⟩
   ·exact ⟨by omega,by omega⟩
  ·rintro ⟨_,h2⟩
   by_cases h0:gu c L r.Value=0
   ·exact .inr ⟨by omega,h0⟩
   ·exact .inl ⟨by omega,by omega⟩
 ·simp only [hx,ne_eq,not_false_eq_true,true_and,false_and,or_false,if_neg (Ne.symm hx),Nat.add_zero]
  exact h.mem x n
theorem tx (L:List al) (w:Int×List UInt8) (hl:L.length<2^32):aO (Loop (eK L w) (([]:List MV),0)) fun es=> ∃E,es=E.map fP∧B2 w.1 L E:=by
 refine aO.loop (fun st=> ∃(k:Nat) (E:List (List UInt8×Int)),k≤L.length∧st=(E.map fP,(k:Int))∧B2 w.1 (L.take k) E) (fun st=>((L.length:Int)-st.2).toNat) ⟨0,[],Nat.zero_le _,rfl,.nil _⟩ ?_
 rintro st ⟨k,E,hk,rfl,hE⟩
 unfold eK
 by_cases cA:k<L.length
 ·simp only [show ((k:Int)<(L.length:Int)) by omega,if_true,bO cA]
  rw [wrap64 (x:=(k:Int)+1) (by omega) (by omega)]
  have Je:L.take (k+1)=L.take k++[L[k]]:=by rw [List.take_add_one,List.getElem?_eq_getElem cA];rfl
  have Jg:(if L[k].Has then some (decide (w.1<L[k].View)) else some false:Option Bool)=some (L[k].Has&&decide (w.1<L[k].View)):=by cases L[k].Has<;>rfl
  rw [Jg]
  simp only [aq]
  cases hh:L[k].Has&&decide (w.1<L[k].View) with
  |true=>
   rw [RS E L[k].Value]
   ·simp only [if_true,aq]
    refine .mk ⟨⟨k+1,_,by omega,rfl,?_⟩,by simp only;omega⟩
    rw [Je];exact hE.add hh
   ·intro p hp
    obtain ⟨h1,h2⟩:=(hE.mem p.1 p.2).1 hp
    have:gu w.1 (L.take k) p.1≤L.length:=by unfold gu;exact gq
    omega
  |false=>
   simp only [Bool.false_eq_true,if_false,aq]
   refine .mk ⟨⟨k+1,E,by omega,rfl,?_⟩,by simp only;omega⟩
   rw [Je];exact hE.skip hh
 ·simp only [show¬((k:Int)<(L.length:Int)) by omega,if_false]
  refine .mk ⟨E,rfl,?_⟩
  rw [List.take_of_length_le (by omega)] at hE
  exact hE
def AU (V:Int) (L:List al) (res:List UInt8×Bool):Prop:=
 (∃x,V≤(gu (cS L).1 L x:Int)∧res=(x,true))∨((∀x,(gu (cS L).1 L x:Int)<V)∧res=((cS L).2,decide (0≤(cS L).1)))
theorem AU.uniq {V:Int} {L:List al} {r r':List UInt8×Bool} (hV:(L.length:Int)<2 *V) (h:AU V L r) (h':AU V L r'):r=r':=by
 rcases h with ⟨x,h1,rfl⟩|⟨h1,rfl⟩<;>rcases h' with ⟨y,h2,rfl⟩|⟨h2,rfl⟩
 ·by_cases Mc:x=y
  ·rw [Mc]
  ·have:=GM (c:=(cS L).1) Mc L
   omega
 ·have:=h2 x;omega
 ·have:=h1 y;omega
 ·rfl
theorem Y8 {V:Int} {f:MV→Option (Sum Unit (Unit⊕(List UInt8×Bool)))} {d:Option (Unit⊕(List UInt8×Bool))} (hd:d=some (.inl ())) (hf: ∀p,f (fP p)=if V≤p.2 then some (.inr (.inr (p.1,true))) else some (.inl ())):
 ∀(E:List (List UInt8×Int)),(E.map (·.1)).Nodup→(∀p∈E,∀q∈E,V≤p.2→V≤q.2→p.1=q.1)→aO (lk f d (E.map fP)) fun r=>(∃p∈E,V≤p.2∧r= .inr (p.1,true))∨((∀p∈E,p.2<V)∧r= .inl ()):=by
 intro E
 induction E with
 |nil=>intro _ _;rw [hd];exact .mk (.inr ⟨by simp,rfl⟩)
 |cons p E ih=>
  intro hn hu
  obtain ⟨h1,h2⟩:=List.nodup_cons.1 hn
  simp only [List.map_cons,lk,hf]
  by_cases hp:V≤p.2
  ·rw [if_pos hp]
   have jT:(E.map fP).all (fun y=>pM (f y))=true:=by
    rw [List.all_eq_true]
    intro m hm
    obtain ⟨q,hq,rfl⟩:=List.mem_map.1 hm
    rw [hf]
    by_cases hV:V≤q.2
    ·have:=hu p (by simp) q (by simp [hq]) hp hV
     exact absurd (List.mem_map.2 ⟨q,hq,this.symm⟩) h1
    ·rw [if_neg hV];rfl
   simp only [jT,cond_true]
   exact .mk (.inl ⟨p,by simp,hp,rfl⟩)
  ·rw [if_neg hp]
   refine (ih h2 fun a ha b hb=>hu a (by simp [ha]) b (by simp [hb])).imp ?_
   rintro r (⟨q,hq,h3,h4⟩|⟨h3,h4⟩)
   ·exact .inl ⟨q,by simp [hq],h3,h4⟩
   ·refine .inr ⟨fun q hq=> ?_,h4⟩
    rcases List.mem_cons.1 hq with rfl|hq
    ·omega
    ·exact h3 q hq
theorem PE {s:ai} (hs:cD s) (L:List al) (hn:(L.length:Int)=2 *s.F+2 *s.T+1):aO (fe s L) (AU (s.F+s.T+1) L):=by
 have Wp:=(fh s).1 hs
 have hl:L.length<2^32:=by omega
 unfold fe
 rw [VP L hl]
 simp only [aq]
 refine aO.bd (tx L (cS L) hl) ?_
 rintro es ⟨E,rfl,hE⟩
 have hu: ∀p∈E,∀q∈E,s.F+s.T+1≤p.2→s.F+s.T+1≤q.2→p.1=q.1:=by
  intro p hp q hq h1 h2
  have e1:=((hE.mem p.1 p.2).1 hp).2
  have e2:=((hE.mem q.1 q.2).1 hq).2
  by_cases cm:p.1=q.1
  ·exact cm
  ·have:=GM (c:=(cS L).1) cm L
   omega
 refine aO.bd (Y8 (V:=s.F+s.T+1) (f:=eL s) rfl (fun p=> ?_) E hE.nodup hu) ?_
 ·unfold eL
  rw [Ez hs]
  simp only [fP,D8,gT,gC,gA,gN,gS,gI,decide_true,cond_true,aq]
 ·rintro r (⟨p,hp,h1,rfl⟩|⟨h1,rfl⟩)
  ·refine .mk (.inl ⟨p.1,?_,rfl⟩)
   have:=((hE.mem p.1 p.2).1 hp).2
   omega
  ·refine .mk (.inr ⟨fun x=> ?_,?_⟩)
   ·by_cases h0:0<gu (cS L).1 L x
    ·exact h1 (x,_) ((hE.mem x _).2 ⟨h0,rfl⟩)
    ·omega
   ·simp only [Prod.mk.injEq,true_and,decide_eq_decide];omega
theorem IH {s:ai} (hs:cD s) (L:List al) (hn:(L.length:Int)=2 *s.F+2 *s.T+1):aO (oV (ue s) L) (AU (s.F+s.T+1) L):=by
 have Wp:=(fh s).1 hs
 have hl:L.length<2^32:=by omega
 unfold oV
 rw [PC L hl]
 simp only [aq]
 have VM: ∀k (hk:k<L.length),Loop (kT L (cS L) (k:Int)) (0,0)=some (if L[k].Has=true∧(cS L).1<L[k].View then (gu (cS L).1 L L[k].Value:Int) else 0):=by
  intro k hk
  refine aO.eq (aO.count (fun j=>(if L[k].Has=true∧(cS L).1<L[k].View then (gu (cS L).1 (L.take j) L[k].Value:Int) else 0,(j:Int))) L.length (fun _=>True) (by simp [gu]) trivial (fun j hj _=> ?_) (fun _=> ?_))
  ·unfold kT
   simp only [show ((j:Int)<(L.length:Int)) by omega,if_true,bO hj,bO hk]
   rw [wrap64 (x:=(j:Int)+1) (by omega) (by omega)]
   have hle:gu (cS L).1 (L.take j) L[k].Value≤L.length:=by unfold gu;exact gq
   have qR:gu (cS L).1 (L.take (j+1)) L[k].Value=gu (cS L).1 (L.take j) L[k].Value+if sN (cS L).1 L[k].Value L[j] then 1 else 0:=by
    unfold gu
    rw [gZ hj,List.length_append]
    cases sN (cS L).1 L[k].Value L[j]<;>simp
   rw [qR]
   by_cases g:L[k].Has=true∧(cS L).1<L[k].View
   ·simp only [if_pos g]
    obtain ⟨g1,g2⟩:=g
    simp only [g1,g2,if_true]
    unfold sN
    cases a1:L[j].Has with
    |false=>
     simp only [Bool.false_eq_true,if_false,aq,Bool.false_and,Nat.add_zero];exact .mk ⟨rfl,trivial⟩
    |true=>
     simp only [if_true,Bool.true_and]
     by_cases a2:(cS L).1<L[j].View
     ·simp only [a2,if_true,decide_true,Bool.true_and,aq]
      by_cases a3:L[j].Value=L[k].Value
      ·simp only [a3,decide_true,if_true,aq]
       rw [wrap64 (by omega) (by omega)]
       exact .mk ⟨by simp,trivial⟩
      ·simp only [a3,decide_false,Bool.false_eq_true,if_false,aq,Nat.add_zero];exact .mk ⟨rfl,trivial⟩
     ·simp only [a2,if_false,decide_false,Bool.false_and,Bool.false_eq_true,aq,Nat.add_zero];exact .mk ⟨rfl,trivial⟩
   ·simp only [if_neg g]
    have:(if L[j].Has then if (cS L).1<L[j].View then if L[k].Has then if (cS L).1<L[k].View then some (decide (L[j].Value=L[k].Value)) else some false else some false else some false else some false:Option Bool)=some false:=by
     cases b1:L[j].Has<;>by_cases b2:(cS L).1<L[j].View<;>cases b3:L[k].Has<;>by_cases b4:(cS L).1<L[k].View<;>simp [b1,b2,b3,b4]<;>exact absurd ⟨b3,b4⟩ g
    rw [this]
    simp only [aq,Bool.false_eq_true,if_false]
    exact .mk ⟨rfl,trivial⟩
  ·unfold kT
   simp only [show¬((L.length:Int)<(L.length:Int)) by omega,if_false,List.take_length]
   exact .mk rfl
 have no: ∀k (hk:k<L.length),¬(s.F+s.T+1≤if L[k].Has=true∧(cS L).1<L[k].View then (gu (cS L).1 L L[k].Value:Int) else 0)→sN (cS L).1 L[k].Value L[k]=true→(gu (cS L).1 L L[k].Value:Int)<s.F+s.T+1:=by
  intro k hk h1 h2
  simp only [sN,Bool.and_eq_true,decide_eq_true_eq] at h2
  rw [if_pos ⟨h2.1,h2.2.1⟩] at h1
  omega
 refine aO.bd (P:=fun r=>(∃k,∃hk:k<L.length,s.F+s.T+1≤(if L[k].Has=true∧(cS L).1<L[k].View then (gu (cS L).1 L L[k].Value:Int) else 0)∧r= .inr (L[k].Value,true))∨((∀k (hk:k<L.length),¬(s.F+s.T+1≤if L[k].Has=true∧(cS L).1<L[k].View then (gu (cS L).1 L L[k].Value:Int) else 0))∧r= .inl ()))
  (aO.count (fun k=>(k:Int)) L.length (fun k=> ∀j (hj:j<L.length),j<k→ ¬(s.F+s.T+1≤if L[j].Has=true∧(cS L).1<L[j].View then (gu (cS L).1 L L[j].Value:Int) else 0)) rfl (fun j _ hj=>by omega) (fun k hk hp=> ?_) (fun hp=> ?_)) ?_
 ·unfold nI
  simp only [show ((k:Int)<(L.length:Int)) by omega,if_true,VM k hk,GG hs,aq,bO hk]
  rw [wrap64 (by omega) (by omega)]
  by_cases g:s.F+s.T+1≤if L[k].Has=true∧(cS L).1<L[k].View then (gu (cS L).1 L L[k].Value:Int) else 0
  ·simp only [g,if_true]
   exact .mk (.inl ⟨k,hk,g,rfl⟩)
  ·simp only [g,if_false]
   refine .mk ⟨by omega,fun j hj QS=> ?_⟩
   by_cases Pz:j=k
   ·subst Pz;exact g
   ·exact hp j hj (by omega)
 ·unfold nI
  simp only [show¬((L.length:Int)<(L.length:Int)) by omega,if_false]
  exact .mk (.inr ⟨fun k hk=>hp k hk hk,rfl⟩)
 ·rintro r (⟨k,hk,h1,rfl⟩|⟨h1,rfl⟩)
  ·refine .mk (.inl ⟨L[k].Value,?_,rfl⟩)
   by_cases g:L[k].Has=true∧(cS L).1<L[k].View
   ·rw [if_pos g] at h1;exact h1
   ·rw [if_neg g] at h1;omega
  ·refine .mk (.inr ⟨fun x=> ?_,rfl⟩)
   by_cases h0:0<gu (cS L).1 L x
   ·unfold gu at h0
    obtain ⟨r,hr⟩:=List.exists_mem_of_length_pos h0
    obtain ⟨sW,A9⟩:=List.mem_filter.1 hr
    obtain ⟨k,hk,rfl⟩:=List.mem_iff_getElem.1 sW
    have hx:L[k].Value=x:=by
     simp only [sN,Bool.and_eq_true,decide_eq_true_eq] at A9;exact A9.2.2
    subst hx
    exact no k hk (h1 k hk) A9
   ·omega
theorem EA (s:ai) (view:Int) (L:List al) (x:List UInt8) (hp: ∀r∈L,r.Proof.length<2^32) (hl:L.length<2^32):aO (dP s view L x) fun b=>cO (ue s) view L x=some b:=by
 unfold dP cO
 obtain ⟨b1,e1,h1⟩:=GK s view L hp hl
 obtain ⟨b2,e2,h2⟩:=GL s view L hp hl
 rw [e1,e2]
 have:b1=b2:=by cases b1<;>cases b2<;>simp_all
 subst this
 simp only [aq]
 cases b1 with
 |false=>exact .mk rfl
 |true=>
  have hr:=h1.1 rfl
  simp only [Bool.not_true,Bool.false_eq_true,if_false]
  obtain ⟨r,e3,h3⟩:=PE hr.1 L hr.2.1
  obtain ⟨r',e4,h4⟩:=IH hr.1 L hr.2.1
  have Wp:=(fh s).1 hr.1
  have:=h3.uniq (by have:=hr.2.1;omega) h4
  subst this
  rw [e3,e4]
  simp only [aq,J6]
  cases r.2 with
  |false=>exact .mk rfl
  |true=>exact .mk rfl
end Dn.S
