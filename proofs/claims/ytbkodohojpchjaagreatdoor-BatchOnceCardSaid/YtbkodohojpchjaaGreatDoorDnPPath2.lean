import Derived.Test.YtbkodohojpchjaaGreatDoorDnPPath
/- Paths: their names. Conditions: none. -/
set_option linter.unusedVariables false
set_option linter.unusedSimpArgs false
open Bool renaming false_eq_true→bN,true_and→AT,not_true→IT
open List renaming flatMap_cons→sh,drop_succ_cons→AI,mem_cons→AS,cons_append→By,drop_zero→IN
open Int renaming toNat→BY
open Go Dn
namespace Dn.S
section
variable {c:UInt8}
theorem ES (l:List UInt8):eh c l≠[]:=by
 cases l with
 |nil=>simp [eh]
 |cons x l=>
  simp only [eh];split
  ·simp
  ·split<;>simp
theorem pE (l:List UInt8):eh c (c::l)=[]::eh c l:=by simp [eh]
theorem mr {x:UInt8}(h:x≠c)(l:List UInt8): ∃p r,eh c l=p::r/\eh c (x::l)=(x::p)::r:=by
 cases hs:eh c l with
 |nil=>exact absurd hs (ES l)
 |cons p r=>exact ⟨p,r,rfl,by simp [eh,h,hs]⟩
theorem JN (l:List UInt8):(eh c l).flatMap (c::·)=c::l:=by
 induction l with
 |nil=>rfl
 |cons x l ih=>
  by_cases h:x=c
  ·subst h;rw [pE,sh,ih];rfl
  ·obtain ⟨p,r,h1,h2⟩:=mr h l;rw [h2,sh];rw [h1,sh] at ih;simp only [By,List.cons.injEq,true_and] at ih⊢;exact ih
theorem aaZ (l:List UInt8): ∀x∈eh c l,c∉x:=by
 induction l with
 |nil=>intro x hx;simp [eh] at hx;subst hx;simp
 |cons y l ih=>
  intro x hx;by_cases h:y=c
  ·subst h;rw [pE] at hx;rcases AS.1 hx with rfl|hx
   ·simp
   ·exact ih x hx
  ·obtain ⟨p,r,h1,h2⟩:=mr h l;rw [h2] at hx;rw [h1] at ih;rcases AS.1 hx with rfl|hx
   ·have:=ih p (by simp);intro hm;rcases AS.1 hm with rfl|hm
    ·exact h rfl
    ·exact this hm
   ·exact ih x (by simp [hx])
theorem WE {a:List UInt8}(ha:c∉a)(l:List UInt8):eh c (a++c::l)=a::eh c l:=by
 induction a with
 |nil=>exact pE l
 |cons x a ih=>
  have hx:x≠c:=by intro e;subst e;simp at ha
  have ha':c∉a:=λh=>ha (by simp [h]);obtain ⟨p,r,h1,h2⟩:=mr hx (a++c::l);rw [ih ha'] at h1;cases h1;exact h2
theorem SN {a:List UInt8}(ha:c∉a):eh c a=[a]:=by
 induction a with
 |nil=>rfl
 |cons x a ih=>
  have hx:x≠c:=by intro e;subst e;simp at ha
  have ha':c∉a:=λh=>ha (by simp [h]);obtain ⟨p,r,h1,h2⟩:=mr hx a;rw [ih ha'] at h1;cases h1;exact h2
theorem SO {L:List (List UInt8)}(h0:L≠[])(h: ∀x∈L,c∉x):eh c ((L.flatMap (c::·)).drop 1)=L:=by
 induction L with
 |nil=>exact absurd rfl h0
 |cons a L ih=>
  have ha:=h a (by simp);cases L with
  |nil=>simp [SN ha]
  |cons b L=>have ih:=ih (by simp) (λx hx=>h x (by simp [hx]));simp only [sh,By,AI,IN] at ih⊢;rw [WE ha,ih]
theorem SP (l:List UInt8):(eh c l).length<=l.length+1:=by
 induction l with
 |nil=>simp [eh]
 |cons x l ih=>
  by_cases h:x=c
  ·subst h;rw [pE];simp;exact ih
  ·obtain ⟨p,r,h1,h2⟩:=mr h l;rw [h2];rw [h1] at ih;simp at ih⊢;omega
end
theorem DO {α:Type}{l:List (List α)}(h:l≠[]):l.dropLast++[l.getLastD []]=l:=by rw [List.getLastD_eq_getLast?,List.getLast?_eq_some_getLast h];exact List.dropLast_concat_getLast h
def aT (p:List UInt8):List (List UInt8):=if p=[47] then [] else eh 47 (p.drop 1)
def vW (p:List UInt8):Bool:=decide (p.head? =some 47)
def bX (p:List UInt8):Bool:=(vW p&&decide (p.length<=100))&&(decide ((aT p).length<=8)&&(aT p).all ra)
theorem Oo (p:List UInt8):jf p ([47]:List UInt8)=some (if vW p then (p.drop 1,true) else (p,false)):=by
 unfold jf iB iA;simp only [Qy];cases p with
 |nil=>simp [vW,bd]
 |cons x r=>
  have e1:(([47]:List UInt8).length:Int)<=((x::r).length:Int):=by simp;omega
  rw [if_pos e1,if_pos ⟨by decide,by decide,e1⟩,az];by_cases hx:x=47
  ·subst hx;have e2:decide (List.drop (BY 0) (List.take (BY (([47]:List UInt8).length:Int)) (47::r))=([47]:List UInt8))=true:=by simp
   rw [e2];simp only [IT,bN,if_false];rw [if_pos ⟨by decide,e1,Int.le_refl _⟩,az];simp [vW]
  ·have e2:decide (List.drop (BY 0) (List.take (BY (([47]:List UInt8).length:Int)) (x::r))=([47]:List UInt8))=false:=by simp [hx]
   rw [e2];simp [vW,hx,az]
theorem SQ (s:List UInt8):mD s=some (!ra s):=by unfold mD;rw [WD];rfl
theorem Oq {l:List (List UInt8)}{f:List UInt8->Option Bool}{q:List UInt8->Bool}(hf: ∀s,f s=some (q s))(hl:l.length<2^60):dF l f=some (l.any q):=by
 obtain ⟨r,e,hr⟩: ∃r,Loop (dU l f) 0=some r/\((r= .inl ()/\l.any q=false)\/((∃k:Nat,r= .inr (k:Int))/\l.any q=true)):=by
  refine bG.count (λk=>(k:Int)) l.length (λk=>(l.take k).any q=false) rfl rfl (λk hk hp=> ?_) (λhp=> ?_)
  ·unfold dU;rw [if_pos (by omega),b7 hk,hf,az];cases hq:q l[k] with
   |true=>simp only [if_true];exact .mk (.inr ⟨⟨k,rfl⟩,List.any_eq_true.2 ⟨_,List.getElem_mem hk,hq⟩⟩)
   |false=>simp only [bN,if_false];rw [wrap64 (by omega) (by omega)];refine .mk ⟨by omega,?_⟩;rw [take_succ hk,List.any_append,hp];simp [hq]
  ·unfold dU;rw [if_neg (by omega)];rw [List.take_length] at hp;exact .mk (.inl ⟨rfl,hp⟩)
 unfold dF gz;rw [e];rcases hr with ⟨rfl,h⟩|⟨⟨k,rfl⟩,h⟩<;>simp only [az,h]
 ·rfl
 ·simp
theorem aen (l:List (List UInt8)):(!l.any λs=>!ra s)=l.all ra:=by
 induction l with
 |nil=>rfl
 |cons a l ih=>simp only [List.any_cons,List.all_cons,Bool.not_or,Bool.not_not,ih]
theorem JO (p:List UInt8):ig p=some (if vW p&&decide (p.length<=100) then (aT p,decide ((aT p).length<=8)&&(aT p).all ra) else ([],false)):=by
 unfold ig;rw [Oo,az];cases ha:vW p with
 |false=>simp [az]
 |true=>
  simp only [if_true,IT,bN,if_false,az,AT];by_cases hl:p.length<=100
  ·have e1:decide ((100:Int)<(p.length:Int))=false:=decide_eq_false (by omega);rw [e1];simp only [bN,if_false,hl,decide_true,if_true];cases p with
   |nil=>simp [vW] at ha
   |cons x r=>
    have hx:x=47:=by simpa [vW] using ha
    subst hx;simp only [AI,IN,aT];by_cases hr:r=[]
    ·subst hr;simp
    ·have hr': ¬(47::r:List UInt8)=[47]:=by simp [hr]
     rw [if_neg hr,if_neg hr'];have hlen:=SP (c:=47) r;have Fe:r.length<=99:=by simpa using hl
     unfold N8;rw [Nat.ble_eq_true_of_le (by omega:r.length<=4294967280)];simp only [cond_true,az];by_cases h8:(eh 47 r).length<=8
     ·rw [if_pos (by omega),Oq SQ (by omega)];simp only [az,aen,h8,decide_true,AT]
     ·rw [if_neg (by omega)];simp only [az,h8,decide_false,Bool.false_and]
  ·have e1:decide ((100:Int)<(p.length:Int))=true:=decide_eq_true (by omega);rw [e1];simp [hl]
theorem wW (p:List UInt8):kD p=some (bX p):=by
 unfold kD;rw [JO,az];unfold bX;split
 ·rename_i h;rw [h];rfl
 ·rename_i h;rw [Bool.not_eq_true] at h;rw [h];rfl
theorem QA (p:List UInt8):p9 p=some (if bX p then (aT p,0) else ([],13)):=by
 unfold p9;rw [JO,az];unfold bX;cases vW p&&decide (p.length<=100) with
 |false=>simp
 |true=>simp only [if_true,AT];cases decide ((aT p).length<=8)&&(aT p).all ra<;>simp
end Dn.S
