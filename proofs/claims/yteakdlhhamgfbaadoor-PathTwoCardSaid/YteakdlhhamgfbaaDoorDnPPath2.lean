import Derived.Test.YteakdlhhamgfbaaDoorDnPPath
/-
  Paths: their names. Conditions: none.
-/
open Go Dn
set_option linter.unusedVariables false
set_option linter.unusedSimpArgs false
namespace Dn.S
section
variable {c:UInt8}
theorem lE (l:List UInt8):aQ c l≠[]:=by
 cases l with
 |nil=>simp [aQ]
 |cons x l=>
  simp only [aQ]
  split
  ·simp
  ·split<;>simp
theorem cW (l:List UInt8):aQ c (c::l)=[]::aQ c l:=by simp [aQ]
theorem cC {x:UInt8} (h:x≠c) (l:List UInt8): ∃p r,aQ c l=p::r∧aQ c (x::l)=(x::p)::r:=by
 cases hs:aQ c l with
 |nil=>exact absurd hs (lE l)
 |cons p r=>exact ⟨p,r,rfl,by simp [aQ,h,hs]⟩
theorem y7 (l:List UInt8):(aQ c l).flatMap (c::·)=c::l:=by
 induction l with
 |nil=>rfl
 |cons x l ih=>
  by_cases h:x=c
  ·subst h;rw [cW,List.flatMap_cons,ih];rfl
  ·obtain ⟨p,r,h1,h2⟩:=cC h l
   rw [h2,List.flatMap_cons]
   rw [h1,List.flatMap_cons] at ih
   simp only [List.cons_append,List.cons.injEq,true_and] at ih⊢
   exact ih
theorem Eh (l:List UInt8): ∀x∈aQ c l,c∉x:=by
 induction l with
 |nil=>intro x hx;simp [aQ] at hx;subst hx;simp
 |cons y l ih=>
  intro x hx
  by_cases h:y=c
  ·subst h
   rw [cW] at hx
   rcases List.mem_cons.1 hx with rfl|hx
   ·simp
   ·exact ih x hx
  ·obtain ⟨p,r,h1,h2⟩:=cC h l
   rw [h2] at hx
   rw [h1] at ih
   rcases List.mem_cons.1 hx with rfl|hx
   ·have:=ih p (by simp)
    intro hm
    rcases List.mem_cons.1 hm with rfl|hm
    ·exact h rfl
    ·exact this hm
   ·exact ih x (by simp [hx])
theorem Bk {a:List UInt8} (ha:c∉a) (l:List UInt8):aQ c (a++c::l)=a::aQ c l:=by
 induction a with
 |nil=>exact cW l
 |cons x a ih=>
  have hx:x≠c:=by intro e;subst e;simp at ha
  have IH:c∉a:=fun h=>ha (by simp [h])
  obtain ⟨p,r,h1,h2⟩:=cC hx (a++c::l)
  rw [ih IH] at h1
  cases h1
  exact h2
theorem y8 {a:List UInt8} (ha:c∉a):aQ c a=[a]:=by
 induction a with
 |nil=>rfl
 |cons x a ih=>
  have hx:x≠c:=by intro e;subst e;simp at ha
  have IH:c∉a:=fun h=>ha (by simp [h])
  obtain ⟨p,r,h1,h2⟩:=cC hx a
  rw [ih IH] at h1
  cases h1
  exact h2
theorem y9 {L:List (List UInt8)} (h0:L≠[]) (h: ∀x∈L,c∉x):aQ c ((L.flatMap (c::·)).drop 1)=L:=by
 induction L with
 |nil=>exact absurd rfl h0
 |cons a L ih=>
  have ha:=h a (by simp)
  cases L with
  |nil=>simp [y8 ha]
  |cons b L=>
   have ih:=ih (by simp) (fun x hx=>h x (by simp [hx]))
   simp only [List.flatMap_cons,List.cons_append,List.drop_succ_cons,List.drop_zero] at ih⊢
   rw [Bk ha,ih]
theorem mg (l:List UInt8):(aQ c l).length≤l.length+1:=by
 induction l with
 |nil=>simp [aQ]
 |cons x l ih=>
  by_cases h:x=c
  ·subst h;rw [cW];simp;exact ih
  ·obtain ⟨p,r,h1,h2⟩:=cC h l
   rw [h2];rw [h1] at ih;simp at ih⊢;omega
theorem xH (l:List UInt8): ∀x∈aQ c l,x.length≤l.length:=by
 induction l with
 |nil=>intro x hx;simp [aQ] at hx;subst hx;simp
 |cons y l ih=>
  intro x hx
  by_cases h:y=c
  ·subst h
   rw [cW] at hx
   rcases List.mem_cons.1 hx with rfl|hx
   ·simp
   ·have:=ih x hx;simp;omega
  ·obtain ⟨p,r,h1,h2⟩:=cC h l
   rw [h2] at hx
   rw [h1] at ih
   rcases List.mem_cons.1 hx with rfl|hx
   ·have:=ih p (by simp);simp;omega
   ·have:=ih x (by simp [hx]);simp;omega
theorem za (l:List UInt8) (x:UInt8):aQ c (l++[x])=if x=c then aQ c l++[[]] else (aQ c l).dropLast++[(aQ c l).getLastD []++[x]]:=by
 induction l with
 |nil=>by_cases h:x=c<;>simp [aQ,h]
 |cons y l ih=>
  rw [List.cons_append]
  by_cases hy:y=c
  ·subst hy
   rw [cW,cW,ih]
   split
   ·rfl
   ·cases hs:aQ y l with
    |nil=>exact absurd hs (lE l)
    |cons p r=>simp [List.dropLast,List.getLastD,List.getLast?_cons_cons]
  ·obtain ⟨p,r,h1,h2⟩:=cC hy l
   obtain ⟨p',r',h3,h4⟩:=cC hy (l++[x])
   rw [h4,h2]
   rw [ih,h1] at h3
   split
   ·rename_i hx;rw [if_pos hx] at h3;simp only [List.cons_append,List.cons.injEq] at h3;rw [←h3.1,←h3.2];rfl
   ·rename_i hx
    rw [if_neg hx] at h3
    cases r with
    |nil=>simp at h3;rw [h3.2,←h3.1];rfl
    |cons q r=>
     simp only [List.dropLast_cons_cons,List.cons_append,List.cons.injEq] at h3
     rw [←h3.1,←h3.2]
     simp [List.getLastD,List.getLast?_cons_cons]
end
theorem gz {α:Type} {l:List (List α)} (h:l≠[]):l.dropLast++[l.getLastD []]=l:=by
 rw [List.getLastD_eq_getLast?,List.getLast?_eq_some_getLast h]
 exact List.dropLast_concat_getLast h
def ba (p:List UInt8):List (List UInt8):=if p=[47] then [] else aQ 47 (p.drop 1)
def fV (p:List UInt8):Bool:=decide (p.head? =some 47)
def bL (p:List UInt8):Bool:=(fV p&&decide (p.length≤100))&&(decide ((ba p).length≤8)&&(ba p).all dr)
theorem vX (p:List UInt8):cb p ([47]:List UInt8)=some (if fV p then (p.drop 1,true) else (p,false)):=by
 unfold cb bO bN
 simp only [td]
 cases p with
 |nil=>simp [fV,bd]
 |cons x r=>
  have e1:(([47]:List UInt8).length:Int)≤((x::r).length:Int):=by simp;omega
  rw [if_pos e1,if_pos ⟨by decide,by decide,e1⟩,bY]
  by_cases hx:x=47
  ·subst hx
   have e2:decide (List.drop (Int.toNat 0) (List.take (Int.toNat (([47]:List UInt8).length:Int)) (47::r))=([47]:List UInt8))=true:=by simp
   rw [e2]
   simp only [Bool.not_true,Bool.false_eq_true,if_false]
   rw [if_pos ⟨by decide,e1,Int.le_refl _⟩,bY]
   simp [fV]
  ·have e2:decide (List.drop (Int.toNat 0) (List.take (Int.toNat (([47]:List UInt8).length:Int)) (x::r))=([47]:List UInt8))=false:=by simp [hx]
   rw [e2]
   simp [fV,hx,bY]
theorem zb (s:List UInt8):dh s=some (!dr s):=by
 unfold dh;rw [uW];rfl
theorem vY {l:List (List UInt8)} {f:List UInt8→Option Bool} {q:List UInt8→Bool} (hf: ∀s,f s=some (q s)) (hl:l.length<2^60):aZ l f=some (l.any q):=by
 obtain ⟨r,e,hr⟩: ∃r,Loop (bg l f) 0=some r∧((r= .inl ()∧l.any q=false)∨((∃k:Nat,r= .inr (k:Int))∧l.any q=true)):=by
  refine bQ.count (fun k=>(k:Int)) l.length (fun k=>(l.take k).any q=false) rfl rfl (fun k hk hp=> ?_) (fun hp=> ?_)
  ·unfold bg
   rw [if_pos (by omega),gy hk,hf,bY]
   cases hq:q l[k] with
   |true=>
    simp only [if_true]
    exact .mk (.inr ⟨⟨k,rfl⟩,List.any_eq_true.2 ⟨_,List.getElem_mem hk,hq⟩⟩)
   |false=>
    simp only [Bool.false_eq_true,if_false]
    rw [wrap64 (by omega) (by omega)]
    refine .mk ⟨by omega,?_⟩
    rw [take_succ hk,List.any_append,hp];simp [hq]
  ·unfold bg
   rw [if_neg (by omega)]
   rw [List.take_length] at hp
   exact .mk (.inl ⟨rfl,hp⟩)
 unfold aZ bI
 rw [e]
 rcases hr with ⟨rfl,h⟩|⟨⟨k,rfl⟩,h⟩<;>simp only [bY,h]
 ·rfl
 ·simp
theorem F1 (l:List (List UInt8)):(!l.any fun s=>!dr s)=l.all dr:=by
 induction l with
 |nil=>rfl
 |cons a l ih=>simp only [List.any_cons,List.all_cons,Bool.not_or,Bool.not_not,ih]
theorem xI (p:List UInt8):cH p=some (if fV p&&decide (p.length≤100) then (ba p,decide ((ba p).length≤8)&&(ba p).all dr) else ([],false)):=by
 unfold cH
 rw [vX,bY]
 cases ha:fV p with
 |false=>simp [bY]
 |true=>
  simp only [if_true,Bool.not_true,Bool.false_eq_true,if_false,bY,Bool.true_and]
  by_cases hl:p.length≤100
  ·have e1:decide ((100:Int)<(p.length:Int))=false:=decide_eq_false (by omega)
   rw [e1]
   simp only [Bool.false_eq_true,if_false,hl,decide_true,if_true]
   cases p with
   |nil=>simp [fV] at ha
   |cons x r=>
    have hx:x=47:=by simpa [fV] using ha
    subst hx
    simp only [List.drop_succ_cons,List.drop_zero,ba]
    by_cases hr:r=[]
    ·subst hr;simp
    ·have Hf: ¬(47::r:List UInt8)=[47]:=by simp [hr]
     rw [if_neg hr,if_neg Hf]
     have hlen:=mg (c:=47) r
     have p7:r.length≤99:=by simpa using hl
     unfold sU
     rw [Nat.ble_eq_true_of_le (by omega:r.length≤4294967280)]
     simp only [cond_true,bY]
     by_cases h8:(aQ 47 r).length≤8
     ·rw [if_pos (by omega),vY zb (by omega)]
      simp only [bY,F1,h8,decide_true,Bool.true_and]
     ·rw [if_neg (by omega)]
      simp only [bY,h8,decide_false,Bool.false_and]
  ·have e1:decide ((100:Int)<(p.length:Int))=true:=decide_eq_true (by omega)
   rw [e1]
   simp [hl]
theorem xJ (p:List UInt8):cT p=some (bL p):=by
 unfold cT
 rw [xI,bY]
 unfold bL
 split
 ·rename_i h;rw [h];rfl
 ·rename_i h;rw [Bool.not_eq_true] at h;rw [h];rfl
theorem Ei {R:Type} (b:UInt8) (K:List UInt8→Option R):yX [(b.toNat:Int)] K=K [b]:=by
 unfold yX
 simp [isByte]
theorem uX (p:List UInt8) (hl:p.length≤1000):nO p=some (if fV p then ba p else [],fV p):=by
 unfold nO
 cases p with
 |nil=>simp [fV,bY]
 |cons x r=>
  have b7: ¬(((x::r).length:Int)=0):=by simp;omega
  have dJ:(0:Int)<((x::r).length:Int):=by simp
  rw [if_neg b7,if_pos ⟨by decide,dJ⟩,bY]
  have EY:((x::r:List UInt8).getD (Int.toNat 0) 0)=x:=rfl
  rw [EY]
  by_cases hx:x=47
  rotate_left
  ·have yl: ¬((x.toNat:Int)=47):=by
    intro e;apply hx;apply UInt8.toNat_inj.1
    show x.toNat=47
    omega
   simp [yl,fV,hx]
  subst hx
  have e0:(!decide ((((47:UInt8).toNat:Nat):Int)=47))=false:=by decide
  rw [e0]
  simp only [Bool.false_eq_true,if_false]
  have Iw:fV (47::r)=true:=by simp [fV]
  rw [Iw]
  simp only [if_true,ba]
  by_cases hr:r=[]
  ·subst hr;simp
  have Hf: ¬(47::r:List UInt8)=[47]:=by simp [hr]
  rw [if_neg Hf,if_neg Hf]
  have p7:r.length≤999:=by simpa using hl
  have xG:Loop (lq (47::r)) (([]:List (List UInt8)),([]:List UInt8),1)=some ((aQ 47 r).dropLast,(aQ 47 r).getLastD []):=by
   refine bQ.eq (bQ.count (fun k=>((aQ 47 (r.take k)).dropLast,(aQ 47 (r.take k)).getLastD [],((k+1:Nat):Int))) r.length (fun _=>True) rfl trivial (fun k hk _=> ?_) (fun _=> ?_))
   ·unfold lq
    dsimp only
    have ng:(0:Int)≤((k+1:Nat):Int)∧((k+1:Nat):Int)<(((47:UInt8)::r).length:Int):=by simp;omega
    rw [if_pos ng.2,if_pos ng]
    have fT:((47::r:List UInt8).getD (Int.toNat ((k+1:Nat):Int)) 0)=r[k]:=by
     rw [Int.toNat_natCast,List.getD_eq_getElem?_getD,List.getElem?_cons_succ,List.getElem?_eq_getElem hk];rfl
    rw [fT,wrap64 (by omega) (by omega)]
    have KM:=za (c:=47) (r.take k) r[k]
    rw [←take_succ hk] at KM
    have KN:=mg (c:=47) (r.take k)
    have QF:(r.take k).length≤999:=by rw [List.length_take];omega
    have Np:=lE (c:=47) (r.take k)
    have AQ:(aQ 47 (r.take k)).dropLast++[(aQ 47 (r.take k)).getLastD []]=aQ 47 (r.take k):=by
     exact gz Np
    by_cases hc:r[k]=47
    ·have Nq:((r[k].toNat:Nat):Int)=47:=by rw [hc];rfl
     rw [if_pos Nq,if_pos (by simp only [List.length_dropLast,List.length_cons,List.length_nil];omega),bY]
     rw [if_pos hc] at KM
     refine .mk ⟨?_,trivial⟩
     rw [AQ,KM]
     simp [List.getLastD_eq_getLast?]
    ·have Nq: ¬((r[k].toNat:Nat):Int)=47:=by
      intro e;apply hc;apply UInt8.toNat_inj.1
      show r[k].toNat=47
      omega
     have hle:((aQ 47 (r.take k)).getLastD []).length≤999:=by
      have:=xH (c:=47) (r.take k) ((aQ 47 (r.take k)).getLastD []) (by rw [←AQ];simp)
      omega
     rw [if_neg Nq,if_pos ng,Ei,if_pos (by simp only [List.length_cons,List.length_nil];omega),bY]
     rw [if_neg hc] at KM
     refine .mk ⟨?_,trivial⟩
     rw [KM]
     simp [List.getLastD_eq_getLast?]
   ·unfold lq
    dsimp only
    rw [if_neg (by simp),List.take_length]
    exact .mk rfl
  rw [xG,bY]
  have KN:=mg (c:=47) r
  rw [if_pos (by simp only [List.length_dropLast,List.length_cons,List.length_nil];omega)]
  have AQ:(aQ 47 r).dropLast++[(aQ 47 r).getLastD []]=aQ 47 r:=by
   exact gz (lE r)
  rw [AQ]
  rfl
end Dn.S
