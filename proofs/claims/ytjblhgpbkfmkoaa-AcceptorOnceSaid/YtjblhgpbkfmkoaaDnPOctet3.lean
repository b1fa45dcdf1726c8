import Derived.Test.YtjblhgpbkfmkoaaDnPOctet2
/-
  Numbers and texts as bytes: the document's answer; what is taken. Conditions: none.
-/
open Go Dn
set_option linter.unusedVariables false
set_option linter.unusedSimpArgs false
namespace Dn.S
def A3 (b:List Int):Int:=match b with
 |[]=>2
 |y::r=>if 8<y.toNat∨(0<y.toNat∧r[0]? =some 0) then 3 else 2
theorem eh (b:List Int):A3 b≠0:=by
 unfold A3;cases b with
 |nil=>decide
 |cons y r=>simp only;split<;>decide
def Z7 (b:List Int):Int×List Int×Int:=match jQ b with
 |some (n,r)=>((n:Int),r,0)
 |none=>(0,[],A3 b)
theorem PP {b:List Int} {y:Int} {m:List Int} (e:List.drop (Int.toNat 0) (List.take (Int.toNat (IntKind.wrap .i64 y)) (List.drop (Int.toNat 1) (List.take (Int.toNat (b.length:Int)) b)))=m) (hm:ma m) (h8:m.length≤8):
 ∀(d j acc:Nat),j+d=m.length→acc<256^j→Loop (jH b y) ((acc:Int),(j:Int))=some (rJ acc (m.drop j):Int):=by
 intro d
 induction d with
 |zero=>
  intro j acc hj _
  refine rI ?_
  unfold jH
  rw [e]
  simp only
  rw [if_neg (by omega),show m.drop j=[] from List.drop_of_length_le (by omega)]
  rfl
 |succ d ih=>
  intro j acc hj ha
  have cA:j<m.length:=by omega
  have hc:=hm _ (List.getElem_mem cA)
  have adV:256^(j+1)≤256^8:=Nat.pow_le_pow_right (by decide) (by omega)
  have hs:acc *256+m[j].toNat<256^(j+1):=by rw [Nat.pow_succ];omega
  have ZR:acc *256+m[j].toNat<2^64:=Nat.lt_of_lt_of_le hs (by simpa using adV)
  refine kw (s':=(((acc *256+m[j].toNat:Nat):Int),((j+1:Nat):Int))) ?_ ?_
  ·unfold jH
   rw [e]
   simp only
   rw [if_pos (by omega),bO cA,if_pos (by decide),show min (Int.toNat 8) (IntKind.bits .u64)=8 by decide,yp,yp,wrap64 (by omega) (by omega),
    show (acc:Int) *2^8%18446744073709551616=((acc *256:Nat):Int) by omega,show m[j]%18446744073709551616=(m[j].toNat:Int) by omega,RW (by omega) ZR]
   congr 3
  ·rw [ih (j+1) _ (by omega) hs,List.drop_eq_getElem_cons cA,rJ]
theorem A4 {b:List Int} (hb:ma b) (hl:b.length<2^40):kl b=some (Z7 b):=by
 unfold kl Z7
 cases b with
 |nil=>simp [jQ,A3]
 |cons y l=>
  obtain ⟨hy,Fl⟩:=hb.cons
  have hll:l.length<2^40:=by simp only [List.length_cons] at hl;omega
  have e1:List.drop (Int.toNat 1) (List.take (Int.toNat (((y::l).length:Nat):Int)) (y::l))=l:=by simp
  have ey:IntKind.wrap .i64 y=y:=wrap64 (by omega) (by omega)
  rw [if_neg (by simp only [List.length_cons];omega),jO (by simp),if_pos ⟨by decide,by simp only [List.length_cons];omega,Int.le_refl _⟩,e1]
  simp only [List.getElem_cons_zero,ey]
  have hg:(if (8:Int)<y then some true else if (0:Int)<y then if (0:Int)<(l.length:Int) then ix l 0 fun y1=>some (decide (y1=0)) else some false else some false:Option Bool)=some (decide (8<y.toNat∨(0<y.toNat∧l[0]? =some 0))):=by
   by_cases c1:(8:Int)<y
   ·rw [if_pos c1,decide_eq_true (.inl (by omega))]
   ·rw [if_neg c1]
    by_cases c2:(0:Int)<y
    ·rw [if_pos c2]
     cases l with
     |nil=>simp;omega
     |cons c r=>
      rw [if_pos (by simp only [List.length_cons];omega),jO (by simp)]
      congr 1
      rw [decide_eq_decide]
      simp only [List.getElem_cons_zero,List.getElem?_cons_zero,Option.some.injEq]
      omega
    ·rw [if_neg c2,decide_eq_false (by omega)]
  rw [hg,aq]
  unfold jQ A3
  simp only
  by_cases c1:8<y.toNat∨(0<y.toNat∧l[0]? =some 0)
  ·rw [if_pos (by simpa using c1),if_pos (by rcases c1 with h|h;exact .inl h;exact .inr (.inl h)),if_pos c1]
  ·rw [if_neg (by simpa using c1)]
   by_cases c2:l.length<y.toNat
   ·rw [if_pos (by omega),if_pos (.inr (.inr c2)),if_neg c1]
   ·have hlen:(l.take y.toNat).length=y.toNat:=by rw [List.length_take];omega
    have e2:List.drop (Int.toNat 0) (List.take (Int.toNat (IntKind.wrap .i64 y)) (List.drop (Int.toNat 1) (List.take (Int.toNat (((y::l).length:Nat):Int)) (y::l))))=l.take y.toNat:=by rw [e1,ey];simp
    have hL:=PP e2 (Fl.take _) (by omega) y.toNat 0 0 (by omega) (by simp)
    simp only [Int.natCast_zero,List.drop_zero] at hL
    rw [if_neg (by omega),if_pos ⟨by decide,by omega,by omega⟩,hL,aq,if_pos ⟨by omega,by omega,by omega⟩,if_neg (by intro h;rcases h with h|h|h;exact c1 (.inl h);exact c1 (.inr h);exact c2 h)]
    simp
theorem B4 {b:List Int} (hb:ma b) (hl:b.length<2^40):iH b=some (match fC b with|some (n,r)=>(n,r,0)|none=>(0,[],A3 b)):=by
 unfold iH fC
 rw [A4 hb hl,aq,if_pos (by decide)]
 unfold Z7
 cases ht:jQ b with
 |none=>
  simp only
  have e:vY .i64 (IntKind.wrap .i64 (Int.fdiv 0 (2^min (Int.toNat 1) (IntKind.bits .u64)))) (IntKind.wrap .i64 (0-(IntKind.wrap .i64 (G5 .u64 0 1))))=0:=by decide+kernel
  rw [e]
 |some p=>
  obtain ⟨u,r⟩:=p
  obtain ⟨_,hu,_⟩:=qm hb ht
  simp only
  congr 2
  rw [and_one hu,show Int.toNat 1=1 from rfl,vP u 1 (by decide),wrap64 (x:=((u/2^1:Nat):Int)) (by omega) (by omega)]
  unfold uz
  by_cases c:u%2=1
  ·rw [if_pos c,c,wrap64 (by decide) (by decide),wrap64 (by decide) (by decide),GO rfl (by omega) _ (by decide),adT]
   omega
  ·rw [if_neg c,show u%2=0 by omega,wrap64 (by decide) (by decide),wrap64 (by decide) (by decide),show (0:Int)-((0:Nat):Int)=0 by decide,xor_zero rfl (by omega),wrap64 (by omega) (by omega)]
def Wq (b:List Int) (most:Nat):List UInt8×List Int×Int:=match jQ b with
 |some (n,r)=>if most<n then ([],[],5) else if r.length<n then ([],[],2) else (ED (r.take n),r.drop n,0)
 |none=>([],[],A3 b)
theorem LO (b:List Int) (most:Nat):(∃s r,nP b most=some (s,r)∧Wq b most=(s,r,0))∨(nP b most=none∧ ∃e,e≠0∧Wq b most=([],[],e)):=by
 unfold nP Wq
 cases jQ b with
 |none=>exact .inr ⟨rfl,_,eh b,rfl⟩
 |some p=>
  obtain ⟨n,r⟩:=p
  simp only
  by_cases c1:most<n
  ·exact .inr ⟨if_pos (.inl c1),5,by decide,if_pos c1⟩
  ·by_cases c2:r.length<n
   ·exact .inr ⟨if_pos (.inr c2),2,by decide,by rw [if_neg c1,if_pos c2]⟩
   ·exact .inl ⟨_,_,if_neg (by intro h;rcases h with h|h;exact c1 h;exact c2 h),by rw [if_neg c1,if_neg c2]⟩
theorem ul {b:List Int} {n:Nat} {r:List Int} (h:jQ b=some (n,r)):r.length≤b.length:=by
 unfold jQ at h
 cases b with
 |nil=>cases h
 |cons y l=>
  simp only at h
  split at h
  ·cases h
  ·injection h with h
   injection h with _ h2
   rw [←h2,List.length_drop,List.length_cons];omega
theorem LP {n:Nat} {r:List Int} (hr:ma r) (hl:r.length<2^40) {most:Nat} (hm:most<2^40) (hn:n<2^64):
 (if (IntKind.wrap .u64 (imax (most:Int) 0))<(n:Int) then some (([]:List UInt8),([]:List Int),(5:Int)) else if (IntKind.wrap .u64 (r.length:Int))<(n:Int) then some (([]:List UInt8),([]:List Int),2)
 else if (0:Int)≤0∧(0:Int)≤(n:Int)∧(n:Int)≤(r.length:Int) then Ga (List.drop (Int.toNat 0) (List.take (Int.toNat (n:Int)) r)) fun bs=>
  if (0:Int)≤(n:Int)∧(n:Int)≤(r.length:Int)∧(r.length:Int)≤(r.length:Int) then some (bs,List.drop (Int.toNat (n:Int)) (List.take (Int.toNat (r.length:Int)) r),0) else none
 else none)=some (if most<n then (([]:List UInt8),([]:List Int),(5:Int)) else if r.length<n then ([],[],2) else (ED (r.take n),r.drop n,0)):=by
 have e1:IntKind.wrap .u64 (imax (most:Int) 0)=(most:Int):=by unfold imax;rw [yp];split<;>omega
 have e2:IntKind.wrap .u64 (r.length:Int)=(r.length:Int):=by rw [yp];omega
 rw [e1,e2]
 by_cases c1:most<n
 ·rw [if_pos (by omega),if_pos c1]
 ·rw [if_neg (by omega),if_neg c1]
  by_cases c2:r.length<n
  ·rw [if_pos (by omega),if_pos c2]
  ·rw [if_neg (by omega),if_neg c2,if_pos ⟨by decide,by omega,by omega⟩,show List.drop (Int.toNat 0) (List.take (Int.toNat (n:Int)) r)=r.take n by simp,PN (hr.take _),if_pos ⟨by omega,by omega,by omega⟩]
   simp
theorem A5 {b:List Int} (hb:ma b) (hl:b.length<2^40) {most:Nat} (hm:most<2^40):eM b (most:Int)=some (Wq b most):=by
 unfold eM Wq
 rw [A4 hb hl,aq]
 unfold Z7
 cases ht:jQ b with
 |none=>simp only [eh b,decide_false,Bool.not_false,if_true]
 |some p=>
  obtain ⟨n,r⟩:=p
  obtain ⟨_,hu,hr⟩:=qm hb ht
  have Rh:=ul ht
  simp only [decide_true,Bool.not_true,Bool.false_eq_true,if_false]
  exact LP hr (by omega) hm hu
end Dn.S
