import Derived.Test.YtbkodohojpchjaaGreatDoorDnPPath
/-
  Paths: their names. Conditions: none.
-/
open Go Dn
set_option linter.unusedVariables false
set_option linter.unusedSimpArgs false
namespace Dn.S
section
variable {c:UInt8}
theorem Aj (l:List UInt8):du c l≠[]:=by
 cases l with
 |nil=>simp [du]
 |cons x l=>
  simp only [du]
  split
  ·simp
  ·split<;>simp
theorem mW (l:List UInt8):du c (c::l)=[]::du c l:=by simp [du]
theorem kp {x:UInt8} (h:x≠c) (l:List UInt8): ∃p r,du c l=p::r∧du c (x::l)=(x::p)::r:=by
 cases hs:du c l with
 |nil=>exact absurd hs (Aj l)
 |cons p r=>exact ⟨p,r,rfl,by simp [du,h,hs]⟩
theorem DP (l:List UInt8):(du c l).flatMap (c::·)=c::l:=by
 induction l with
 |nil=>rfl
 |cons x l ih=>
  by_cases h:x=c
  ·subst h;rw [mW,List.flatMap_cons,ih];rfl
  ·obtain ⟨p,r,h1,h2⟩:=kp h l
   rw [h2,List.flatMap_cons]
   rw [h1,List.flatMap_cons] at ih
   simp only [List.cons_append,List.cons.injEq,true_and] at ih⊢
   exact ih
theorem Sh (l:List UInt8): ∀x∈du c l,c∉x:=by
 induction l with
 |nil=>intro x hx;simp [du] at hx;subst hx;simp
 |cons y l ih=>
  intro x hx
  by_cases h:y=c
  ·subst h
   rw [mW] at hx
   rcases List.mem_cons.1 hx with rfl|hx
   ·simp
   ·exact ih x hx
  ·obtain ⟨p,r,h1,h2⟩:=kp h l
   rw [h2] at hx
   rw [h1] at ih
   rcases List.mem_cons.1 hx with rfl|hx
   ·have:=ih p (by simp)
    intro hm
    rcases List.mem_cons.1 hm with rfl|hm
    ·exact h rfl
    ·exact this hm
   ·exact ih x (by simp [hx])
theorem OC {a:List UInt8} (ha:c∉a) (l:List UInt8):du c (a++c::l)=a::du c l:=by
 induction a with
 |nil=>exact mW l
 |cons x a ih=>
  have hx:x≠c:=by intro e;subst e;simp at ha
  have ZF:c∉a:=fun h=>ha (by simp [h])
  obtain ⟨p,r,h1,h2⟩:=kp hx (a++c::l)
  rw [ih ZF] at h1
  cases h1
  exact h2
theorem Lp {a:List UInt8} (ha:c∉a):du c a=[a]:=by
 induction a with
 |nil=>rfl
 |cons x a ih=>
  have hx:x≠c:=by intro e;subst e;simp at ha
  have ZF:c∉a:=fun h=>ha (by simp [h])
  obtain ⟨p,r,h1,h2⟩:=kp hx a
  rw [ih ZF] at h1
  cases h1
  exact h2
theorem Lq {L:List (List UInt8)} (h0:L≠[]) (h: ∀x∈L,c∉x):du c ((L.flatMap (c::·)).drop 1)=L:=by
 induction L with
 |nil=>exact absurd rfl h0
 |cons a L ih=>
  have ha:=h a (by simp)
  cases L with
  |nil=>simp [Lp ha]
  |cons b L=>
   have ih:=ih (by simp) (fun x hx=>h x (by simp [hx]))
   simp only [List.flatMap_cons,List.cons_append,List.drop_succ_cons,List.drop_zero] at ih⊢
   rw [OC ha,ih]
theorem Lr (l:List UInt8):(du c l).length≤l.length+1:=by
 induction l with
 |nil=>simp [du]
 |cons x l ih=>
  by_cases h:x=c
  ·subst h;rw [mW];simp;exact ih
  ·obtain ⟨p,r,h1,h2⟩:=kp h l
   rw [h2];rw [h1] at ih;simp at ih⊢;omega
end
theorem zl {α:Type} {l:List (List α)} (h:l≠[]):l.dropLast++[l.getLastD []]=l:=by
 rw [List.getLastD_eq_getLast?,List.getLast?_eq_some_getLast h]
 exact List.dropLast_concat_getLast h
def aM (p:List UInt8):List (List UInt8):=if p=[47] then [] else du 47 (p.drop 1)
def rW (p:List UInt8):Bool:=decide (p.head? =some 47)
def bJ (p:List UInt8):Bool:=(rW p&&decide (p.length≤100))&&(decide ((aM p).length≤8)&&(aM p).all oh)
theorem HB (p:List UInt8):fW p ([47]:List UInt8)=some (if rW p then (p.drop 1,true) else (p,false)):=by
 unfold fW fJ fI
 simp only [Ju]
 cases p with
 |nil=>simp [rW,bd]
 |cons x r=>
  have e1:(([47]:List UInt8).length:Int)≤((x::r).length:Int):=by simp;omega
  rw [if_pos e1,if_pos ⟨by decide,by decide,e1⟩,aR]
  by_cases hx:x=47
  ·subst hx
   have e2:decide (List.drop (Int.toNat 0) (List.take (Int.toNat (([47]:List UInt8).length:Int)) (47::r))=([47]:List UInt8))=true:=by simp
   rw [e2]
   simp only [Bool.not_true,Bool.false_eq_true,if_false]
   rw [if_pos ⟨by decide,e1,Int.le_refl _⟩,aR]
   simp [rW]
  ·have e2:decide (List.drop (Int.toNat 0) (List.take (Int.toNat (([47]:List UInt8).length:Int)) (x::r))=([47]:List UInt8))=false:=by simp [hx]
   rw [e2]
   simp [rW,hx,aR]
theorem Ls (s:List UInt8):kG s=some (!oh s):=by
 unfold kG;rw [OB];rfl
theorem HC {l:List (List UInt8)} {f:List UInt8→Option Bool} {q:List UInt8→Bool} (hf: ∀s,f s=some (q s)) (hl:l.length<2^60):da l f=some (l.any q):=by
 obtain ⟨r,e,hr⟩: ∃r,Loop (dm l f) 0=some r∧((r= .inl ()∧l.any q=false)∨((∃k:Nat,r= .inr (k:Int))∧l.any q=true)):=by
  refine bV.count (fun k=>(k:Int)) l.length (fun k=>(l.take k).any q=false) rfl rfl (fun k hk hp=> ?_) (fun hp=> ?_)
  ·unfold dm
   rw [if_pos (by omega),cg hk,hf,aR]
   cases hq:q l[k] with
   |true=>
    simp only [if_true]
    exact .mk (.inr ⟨⟨k,rfl⟩,List.any_eq_true.2 ⟨_,List.getElem_mem hk,hq⟩⟩)
   |false=>
    simp only [Bool.false_eq_true,if_false]
    rw [wrap64 (by omega) (by omega)]
    refine .mk ⟨by omega,?_⟩
    rw [take_succ hk,List.any_append,hp];simp [hq]
  ·unfold dm
   rw [if_neg (by omega)]
   rw [List.take_length] at hp
   exact .mk (.inl ⟨rfl,hp⟩)
 unfold da fc
 rw [e]
 rcases hr with ⟨rfl,h⟩|⟨⟨k,rfl⟩,h⟩<;>simp only [aR,h]
 ·rfl
 ·simp
theorem U8 (l:List (List UInt8)):(!l.any fun s=>!oh s)=l.all oh:=by
 induction l with
 |nil=>rfl
 |cons a l ih=>simp only [List.any_cons,List.all_cons,Bool.not_or,Bool.not_not,ih]
theorem DQ (p:List UInt8):fB p=some (if rW p&&decide (p.length≤100) then (aM p,decide ((aM p).length≤8)&&(aM p).all oh) else ([],false)):=by
 unfold fB
 rw [HB,aR]
 cases ha:rW p with
 |false=>simp [aR]
 |true=>
  simp only [if_true,Bool.not_true,Bool.false_eq_true,if_false,aR,Bool.true_and]
  by_cases hl:p.length≤100
  ·have e1:decide ((100:Int)<(p.length:Int))=false:=decide_eq_false (by omega)
   rw [e1]
   simp only [Bool.false_eq_true,if_false,hl,decide_true,if_true]
   cases p with
   |nil=>simp [rW] at ha
   |cons x r=>
    have hx:x=47:=by simpa [rW] using ha
    subst hx
    simp only [List.drop_succ_cons,List.drop_zero,aM]
    by_cases hr:r=[]
    ·subst hr;simp
    ·have YL: ¬(47::r:List UInt8)=[47]:=by simp [hr]
     rw [if_neg hr,if_neg YL]
     have hlen:=Lr (c:=47) r
     have Ax:r.length≤99:=by simpa using hl
     unfold Hc
     rw [Nat.ble_eq_true_of_le (by omega:r.length≤4294967280)]
     simp only [cond_true,aR]
     by_cases h8:(du 47 r).length≤8
     ·rw [if_pos (by omega),HC Ls (by omega)]
      simp only [aR,U8,h8,decide_true,Bool.true_and]
     ·rw [if_neg (by omega)]
      simp only [aR,h8,decide_false,Bool.false_and]
  ·have e1:decide ((100:Int)<(p.length:Int))=true:=decide_eq_true (by omega)
   rw [e1]
   simp [hl]
theorem sZ (p:List UInt8):iQ p=some (bJ p):=by
 unfold iQ
 rw [DQ,aR]
 unfold bJ
 split
 ·rename_i h;rw [h];rfl
 ·rename_i h;rw [Bool.not_eq_true] at h;rw [h];rfl
theorem Jx (p:List UInt8):nB p=some (if bJ p then (aM p,0) else ([],13)):=by
 unfold nB
 rw [DQ,aR]
 unfold bJ
 cases rW p&&decide (p.length≤100) with
 |false=>simp
 |true=>
  simp only [if_true,Bool.true_and]
  cases decide ((aM p).length≤8)&&(aM p).all oh<;>simp
end Dn.S
