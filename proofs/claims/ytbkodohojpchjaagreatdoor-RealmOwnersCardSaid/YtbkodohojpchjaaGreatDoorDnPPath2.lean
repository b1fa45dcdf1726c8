import Derived.Test.YtbkodohojpchjaaGreatDoorDnPPath
/-
  Paths: their names. Conditions: none.
-/
open Go Dn
set_option linter.unusedVariables false
set_option linter.unusedSimpArgs false
namespace Dn.S
section
variable {c:UInt8}
theorem AX (l:List UInt8):dA c l≠[]:=by
 cases l with
 |nil=>simp [dA]
 |cons x l=>
  simp only [dA]
  split
  ·simp
  ·split<;>simp
theorem nu (l:List UInt8):dA c (c::l)=[]::dA c l:=by simp [dA]
theorem kL {x:UInt8} (h:x≠c) (l:List UInt8): ∃p r,dA c l=p::r∧dA c (x::l)=(x::p)::r:=by
 cases hs:dA c l with
 |nil=>exact absurd hs (AX l)
 |cons p r=>exact ⟨p,r,rfl,by simp [dA,h,hs]⟩
theorem EK (l:List UInt8):(dA c l).flatMap (c::·)=c::l:=by
 induction l with
 |nil=>rfl
 |cons x l ih=>
  by_cases h:x=c
  ·subst h;rw [nu,List.flatMap_cons,ih];rfl
  ·obtain ⟨p,r,h1,h2⟩:=kL h l
   rw [h2,List.flatMap_cons]
   rw [h1,List.flatMap_cons] at ih
   simp only [List.cons_append,List.cons.injEq,true_and] at ih⊢
   exact ih
theorem Tk (l:List UInt8): ∀x∈dA c l,c∉x:=by
 induction l with
 |nil=>intro x hx;simp [dA] at hx;subst hx;simp
 |cons y l ih=>
  intro x hx
  by_cases h:y=c
  ·subst h
   rw [nu] at hx
   rcases List.mem_cons.1 hx with rfl|hx
   ·simp
   ·exact ih x hx
  ·obtain ⟨p,r,h1,h2⟩:=kL h l
   rw [h2] at hx
   rw [h1] at ih
   rcases List.mem_cons.1 hx with rfl|hx
   ·have:=ih p (by simp)
    intro hm
    rcases List.mem_cons.1 hm with rfl|hm
    ·exact h rfl
    ·exact this hm
   ·exact ih x (by simp [hx])
theorem PP {a:List UInt8} (ha:c∉a) (l:List UInt8):dA c (a++c::l)=a::dA c l:=by
 induction a with
 |nil=>exact nu l
 |cons x a ih=>
  have hx:x≠c:=by intro e;subst e;simp at ha
  have ha':c∉a:=fun h=>ha (by simp [h])
  obtain ⟨p,r,h1,h2⟩:=kL hx (a++c::l)
  rw [ih ha'] at h1
  cases h1
  exact h2
theorem My {a:List UInt8} (ha:c∉a):dA c a=[a]:=by
 induction a with
 |nil=>rfl
 |cons x a ih=>
  have hx:x≠c:=by intro e;subst e;simp at ha
  have ha':c∉a:=fun h=>ha (by simp [h])
  obtain ⟨p,r,h1,h2⟩:=kL hx a
  rw [ih ha'] at h1
  cases h1
  exact h2
theorem Mz {L:List (List UInt8)} (h0:L≠[]) (h: ∀x∈L,c∉x):dA c ((L.flatMap (c::·)).drop 1)=L:=by
 induction L with
 |nil=>exact absurd rfl h0
 |cons a L ih=>
  have ha:=h a (by simp)
  cases L with
  |nil=>simp [My ha]
  |cons b L=>
   have ih:=ih (by simp) (fun x hx=>h x (by simp [hx]))
   simp only [List.flatMap_cons,List.cons_append,List.drop_succ_cons,List.drop_zero] at ih⊢
   rw [PP ha,ih]
theorem MA (l:List UInt8):(dA c l).length≤l.length+1:=by
 induction l with
 |nil=>simp [dA]
 |cons x l ih=>
  by_cases h:x=c
  ·subst h;rw [nu];simp;exact ih
  ·obtain ⟨p,r,h1,h2⟩:=kL h l
   rw [h2];rw [h1] at ih;simp at ih⊢;omega
end
theorem zX {α:Type} {l:List (List α)} (h:l≠[]):l.dropLast++[l.getLastD []]=l:=by
 rw [List.getLastD_eq_getLast?,List.getLast?_eq_some_getLast h]
 exact List.dropLast_concat_getLast h
def aP (p:List UInt8):List (List UInt8):=if p=[47] then [] else dA 47 (p.drop 1)
def sM (p:List UInt8):Bool:=decide (p.head? =some 47)
def bw (p:List UInt8):Bool:=(sM p&&decide (p.length≤100))&&(decide ((aP p).length≤8)&&(aP p).all o6)
theorem Iz (p:List UInt8):gD p ([47]:List UInt8)=some (if sM p then (p.drop 1,true) else (p,false)):=by
 unfold gD gh gf
 simp only [Hc]
 cases p with
 |nil=>simp [sM,bd]
 |cons x r=>
  have e1:(([47]:List UInt8).length:Int)≤((x::r).length:Int):=by simp;omega
  rw [if_pos e1,if_pos ⟨by decide,by decide,e1⟩,aM]
  by_cases hx:x=47
  ·subst hx
   have e2:decide (List.drop (Int.toNat 0) (List.take (Int.toNat (([47]:List UInt8).length:Int)) (47::r))=([47]:List UInt8))=true:=by simp
   rw [e2]
   simp only [Bool.not_true,Bool.false_eq_true,if_false]
   rw [if_pos ⟨by decide,e1,Int.le_refl _⟩,aM]
   simp [sM]
  ·have e2:decide (List.drop (Int.toNat 0) (List.take (Int.toNat (([47]:List UInt8).length:Int)) (x::r))=([47]:List UInt8))=false:=by simp [hx]
   rw [e2]
   simp [sM,hx,aM]
theorem MB (s:List UInt8):kV s=some (!o6 s):=by
 unfold kV;rw [PO];rfl
theorem IA {l:List (List UInt8)} {f:List UInt8→Option Bool} {q:List UInt8→Bool} (hf: ∀s,f s=some (q s)) (hl:l.length<2^60):dh l f=some (l.any q):=by
 obtain ⟨r,e,hr⟩: ∃r,Loop (dt l f) 0=some r∧((r= .inl ()∧l.any q=false)∨((∃k:Nat,r= .inr (k:Int))∧l.any q=true)):=by
  refine bK.count (fun k=>(k:Int)) l.length (fun k=>(l.take k).any q=false) rfl rfl (fun k hk hp=> ?_) (fun hp=> ?_)
  ·unfold dt
   rw [if_pos (by omega),cg hk,hf,aM]
   cases hq:q l[k] with
   |true=>
    simp only [if_true]
    exact .mk (.inr ⟨⟨k,rfl⟩,List.any_eq_true.2 ⟨_,List.getElem_mem hk,hq⟩⟩)
   |false=>
    simp only [Bool.false_eq_true,if_false]
    rw [wrap64 (by omega) (by omega)]
    refine .mk ⟨by omega,?_⟩
    rw [take_succ hk,List.any_append,hp];simp [hq]
  ·unfold dt
   rw [if_neg (by omega)]
   rw [List.take_length] at hp
   exact .mk (.inl ⟨rfl,hp⟩)
 unfold dh fF
 rw [e]
 rcases hr with ⟨rfl,h⟩|⟨⟨k,rfl⟩,h⟩<;>simp only [aM,h]
 ·rfl
 ·simp
theorem Wb (l:List (List UInt8)):(!l.any fun s=>!o6 s)=l.all o6:=by
 induction l with
 |nil=>rfl
 |cons a l ih=>simp only [List.any_cons,List.all_cons,Bool.not_or,Bool.not_not,ih]
theorem EL (p:List UInt8):fQ p=some (if sM p&&decide (p.length≤100) then (aP p,decide ((aP p).length≤8)&&(aP p).all o6) else ([],false)):=by
 unfold fQ
 rw [Iz,aM]
 cases ha:sM p with
 |false=>simp [aM]
 |true=>
  simp only [if_true,Bool.not_true,Bool.false_eq_true,if_false,aM,Bool.true_and]
  by_cases hl:p.length≤100
  ·have e1:decide ((100:Int)<(p.length:Int))=false:=decide_eq_false (by omega)
   rw [e1]
   simp only [Bool.false_eq_true,if_false,hl,decide_true,if_true]
   cases p with
   |nil=>simp [sM] at ha
   |cons x r=>
    have hx:x=47:=by simpa [sM] using ha
    subst hx
    simp only [List.drop_succ_cons,List.drop_zero,aP]
    by_cases hr:r=[]
    ·subst hr;simp
    ·have ZQ: ¬(47::r:List UInt8)=[47]:=by simp [hr]
     rw [if_neg hr,if_neg ZQ]
     have hlen:=MA (c:=47) r
     have Be:r.length≤99:=by simpa using hl
     unfold Ia
     rw [Nat.ble_eq_true_of_le (by omega:r.length≤4294967280)]
     simp only [cond_true,aM]
     by_cases h8:(dA 47 r).length≤8
     ·rw [if_pos (by omega),IA MB (by omega)]
      simp only [aM,Wb,h8,decide_true,Bool.true_and]
     ·rw [if_neg (by omega)]
      simp only [aM,h8,decide_false,Bool.false_and]
  ·have e1:decide ((100:Int)<(p.length:Int))=true:=decide_eq_true (by omega)
   rw [e1]
   simp [hl]
theorem o7 (p:List UInt8):fR p=some (bw p):=by
 unfold fR
 rw [EL,aM]
 unfold bw
 split
 ·rename_i h;rw [h];rfl
 ·rename_i h;rw [Bool.not_eq_true] at h;rw [h];rfl
theorem KA (p:List UInt8):nV p=some (if bw p then (aP p,0) else ([],13)):=by
 unfold nV
 rw [EL,aM]
 unfold bw
 cases sM p&&decide (p.length≤100) with
 |false=>simp
 |true=>
  simp only [if_true,Bool.true_and]
  cases decide ((aP p).length≤8)&&(aP p).all o6<;>simp
end Dn.S
