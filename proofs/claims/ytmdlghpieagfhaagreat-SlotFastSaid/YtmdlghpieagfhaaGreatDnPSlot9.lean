import Derived.Test.YtmdlghpieagfhaaGreatDnPSlot8
/-
  SlotFast. Conditions: none.
-/
open Go Dn
set_option linter.unusedVariables false
set_option linter.unusedSimpArgs false
namespace Dn.S
structure Part (n a1:Int) (bad:List Bool) (L:List Int) (i:Nat) (f:Int):Prop where
 from_: ∀x∈L,∃j:Nat,j<i∧x=(a1+(j:Int))%n
 nodup:L.Nodup
 CR: ∀x∈L,0<x∧bad[x.toNat]? =some false
 len:(L.length:Int)≤f-1
theorem Vy {a n:Int} (hn:0<n) {i j:Nat} (h:j<i) (hi:(i:Int)<n):(a+(i:Int))%n≠(a+(j:Int))%n:=by
 intro he
 have:=Int.emod_eq_emod_iff_emod_sub_eq_zero.1 he
 rw [show a+(i:Int)-(a+(j:Int))=(i:Int)-(j:Int) by omega,Int.emod_eq_of_lt (by omega) (by omega)] at this
 omega
theorem YY {a:gz} {a1:Int} (h0:0≤a1) (h1:a1≤1000000) {n f:Int} (hn:(a.cV.length:Int)=n) (Tt:1≤n) (anf:n≤30) (hf:1≤f) (ang:f≤30):bT (Loop (mY a a1 n f) (([]:List Int),0)) fun L=> ∃i,Part n a1 a.cV L i f:=by
 refine bT.loop (fun st=> ∃(i:Nat) (L:List Int),(i:Int)≤n∧st=(L,(i:Int))∧Part n a1 a.cV L i f) (fun st=>(n-st.2).toNat) ⟨0,[],by omega,rfl,⟨by simp,List.Pairwise.nil,by simp,by simp;omega⟩⟩ ?_
 rintro st ⟨i,L,hi,rfl,hp⟩
 unfold mY
 simp only
 have hll:=hp.len
 by_cases c:(i:Int)<n∧(L.length:Int)<f
 rotate_left
 ·have hg:(if (i:Int)<n then some (decide ((L.length:Int)<f)) else some false:Option Bool)=some false:=by
   by_cases c1:(i:Int)<n
   ·have: ¬(L.length:Int)<f:=fun h=>c ⟨c1,h⟩
    simp [c1,this]
   ·simp [c1]
  rw [hg,bl,if_neg (by simp)]
  exact .mk ⟨i,hp⟩
 have hg:(if (i:Int)<n then some (decide ((L.length:Int)<f)) else some false:Option Bool)=some true:=by simp [c.1,c.2]
 have Tv:0≤(a1+(i:Int))%n:=Int.emod_nonneg _ (by omega)
 have hxn:(a1+(i:Int))%n<n:=Int.emod_lt_of_pos _ (by omega)
 have et:Int.tmod (IntKind.wrap .i64 (a1+(i:Int))) n=(a1+(i:Int))%n:=by rw [wrap64 (by omega) (by omega),Int.tmod_eq_emod_of_nonneg (by omega)]
 rw [hg,bl,if_pos rfl,if_pos (by rw [Bool.not_eq_true',decide_eq_false_iff_not];omega),et,wrap64 (x:=f-1) (by omega) (by omega)]
 generalize hxx:(a1+(i:Int))%n=x at Tv hxn
 have Tx:x.toNat<a.cV.length:=by omega
 have keep:Part n a1 a.cV L (i+1) f:=⟨fun y hy=>by obtain ⟨j,h1,h2⟩:=hp.from_ y hy;exact ⟨j,by omega,h2⟩,hp.nodup,hp.CR,hp.len⟩
 have hq: ∃b:Bool,(ix a.cV x fun y1=>if !y1 then (if !decide (x=0) then some (decide ((L.length:Int)<f-1)) else some false) else some false:Option Bool)=some b∧(b=true→a.cV[x.toNat]? =some false∧x≠0∧(L.length:Int)<f-1):=by
  rw [YH Tv Tx]
  cases hb:a.cV[x.toNat] with
  |true=>exact ⟨false,by simp,by simp⟩
  |false=>
   by_cases c2:x=0
   ·exact ⟨false,by simp [c2],by simp⟩
   ·refine ⟨decide ((L.length:Int)<f-1),by simp [c2],fun h=>⟨by rw [List.getElem?_eq_getElem Tx,hb],c2,of_decide_eq_true h⟩⟩
 obtain ⟨b,eb,hb⟩:=hq
 rw [eb,bl]
 cases b with
 |false=>
  simp only [Bool.false_eq_true,if_false,bl]
  rw [wrap64 (by omega) (by omega)]
  exact .mk ⟨⟨i+1,L,by omega,rfl,keep⟩,by simp only;omega⟩
 |true=>
  obtain ⟨g1,g2,g3⟩:=hb rfl
  simp only [if_true]
  rw [if_pos (by rw [List.length_singleton];omega),bl,wrap64 (by omega) (by omega)]
  refine .mk ⟨⟨i+1,L++[x],by omega,rfl,⟨fun y hy=> ?_,?_,fun y hy=> ?_,by rw [List.length_append,List.length_singleton];omega⟩⟩,by simp only;omega⟩
  ·rcases List.mem_append.1 hy with hy|hy
   ·exact keep.from_ y hy
   ·exact ⟨i,by omega,by rw [List.mem_singleton.1 hy,hxx]⟩
  ·refine List.pairwise_append.2 ⟨hp.nodup,List.pairwise_singleton _ _,fun y hy z hz=> ?_⟩
   rw [List.mem_singleton.1 hz]
   intro he
   obtain ⟨j,h1,h2⟩:=hp.from_ y hy
   rw [he,←hxx] at h2
   exact Vy (by omega) h1 c.1 h2
  ·rcases List.mem_append.1 hy with hy|hy
   ·exact hp.CR y hy
   ·rw [List.mem_singleton.1 hy];exact ⟨by omega,g1⟩
theorem IJ (a:gz) (a1:Int) (a2:Bool):pY a a1 a2=some true:=by
 unfold pY
 rw [Vx]
 obtain ⟨b,e,hb⟩:=MK a []
 rw [e,bl]
 cases b with
 |false=>simp
 |true=>
 have hc:=hb rfl
 simp only [Bool.not_true,Bool.false_eq_true,if_false]
 have hg:(if (a.cV.length:Int)<1 then some true else if a1<0 then some true else some (decide ((1000000:Int)<a1)):Option Bool)=some (decide (¬(1≤a.cV.length∧0≤a1∧a1≤1000000))):=by
  repeat' split
  all_goals (congr 1;first|(symm;rw [decide_eq_true_iff];omega)|(rw [decide_eq_decide];omega))
 rw [hg,bl]
 by_cases c1:1≤a.cV.length∧0≤a1∧a1≤1000000
 rotate_left
 ·rw [decide_eq_true c1,if_pos rfl];simp
 obtain ⟨c2,c3,c4⟩:=c1
 rw [decide_eq_false (fun h=>h ⟨c2,c3,c4⟩),if_neg (by simp)]
 obtain ⟨r,er,h1,_⟩:=Hq a.S a.cV a.Want hc.bad hc.want
 rw [er,bl,IE (by omega)]
 by_cases c5:r.2=0
 rotate_left
 ·simp [c5]
 obtain ⟨hs,hn,hw,hws,hr⟩:=h1 c5
 have YM:=(fY a.S).1 hs
 have hF:=hc.f
 cases Xb:a.cV[0] with
 |true=>simp [c5]
 |false=>
 simp only [c5,decide_true,Bool.not_true,Bool.false_eq_true,if_false,bl,tp hs,Cp hs]
 have hn':(a.cV.length:Int)=3 *a.S.F+2 *a.S.T+1:=hn
 refine bT.eq (bT.bd (YY (a:=a) (n:=3 *a.S.F+2 *a.S.T+1) (f:=3 *a.S.F+a.S.T+1) c3 c4 hn' (by omega) (by omega) (by omega) (by omega)) ?_)
 rintro L ⟨i,hp⟩
 have hlen:=hp.len
 rw [if_pos (by rw [List.length_singleton];omega)]
 by_cases c6:((L++([0]:List Int)).length:Int)<3 *a.S.F+a.S.T+1
 ·rw [if_pos c6];exact .mk rfl
 rw [if_neg c6]
 rw [List.length_append,List.length_singleton] at c6
 have h0w:0<a.Want.length:=by omega
 have WC:a.cV[0]? =some false:=by rw [List.getElem?_eq_getElem (by omega),Xb]
 have hw0:a.Want[0]? =some a.Want[0]:=List.getElem?_eq_getElem h0w
 have adk:=hws _ (List.getElem_mem h0w)
 generalize a.Want[0]=w at hw0 adk
 have hI:TG a.cV (L.map Int.toNat++[0]):=by
  refine ⟨List.pairwise_append.2 ⟨?_,List.pairwise_singleton _ _,fun y hy z hz=> ?_⟩,fun y hy=> ?_,by omega,by rw [List.length_append,List.length_map,List.length_singleton];omega⟩
  ·rw [List.pairwise_map]
   refine hp.nodup.imp_of_mem ?_
   intro x y hx hy dt he
   have:=(hp.CR x hx).1
   have:=(hp.CR y hy).1
   omega
  ·obtain ⟨x,hx,rfl⟩:=List.mem_map.1 hy
   rw [List.mem_singleton.1 hz]
   have:=(hp.CR x hx).1
   omega
  ·rcases List.mem_append.1 hy with hy|hy
   ·obtain ⟨x,hx,rfl⟩:=List.mem_map.1 hy
    exact (hp.CR x hx).2
   ·rw [List.mem_singleton.1 hy];exact WC
 have hT:L++[0]=toI (L.map Int.toNat++[0]):=by
  unfold toI
  rw [List.map_append,List.map_map]
  congr 1
  conv=>lhs;rw [←List.map_id L]
  apply List.map_congr_left
  intro x hx
  have:=(hp.CR x hx).1
  simp only [id,Function.comp]
  omega
 have hIl:(L.map Int.toNat++[0]).length=L.length+1:=by rw [List.length_append,List.length_map,List.length_singleton]
 generalize anj:L.map Int.toNat++[0]=ins at hI hT hIl
 obtain ⟨c0,e0,p0⟩:=Fx (w:=w) ins hs hn (by omega) WC hw0 (⟨0,0,0,([]:List UInt8),([]:List ab),(⟨0,0,([]:List UInt8)⟩:aa),([]:List aa),(⟨0,0,false,0,([]:List UInt8),([]:List aa)⟩:ab)⟩:al)
 rw [hr,e0,bl]
 refine bT.bd (YT hI adk hT p0) ?_
 rintro x ⟨c1,rfl,p1⟩
 refine bT.bd (YV (t:=a2) hI hn hT (by omega) (by omega) p1.p3) ?_
 rintro x ⟨c2,rfl,bd2,p2⟩
 simp only
 rw [YW hI hT hw0 p2]
 exact .mk rfl
end Dn.S
