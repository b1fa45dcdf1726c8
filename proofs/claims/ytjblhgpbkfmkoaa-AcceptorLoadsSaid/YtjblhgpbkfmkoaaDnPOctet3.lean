import Derived.Test.YtjblhgpbkfmkoaaDnPOctet2
/-
  Numbers and texts as bytes: the document's answer; what is taken. Conditions: none.
-/
open Go Dn
set_option linter.unusedVariables false
set_option linter.unusedSimpArgs false
namespace Dn.S
theorem FO {n:Nat} (h:n<2^64):pK (n:Int)=some ((1+cD n:Nat):Int):=by
 unfold pK
 have hk:=jA n
 have:=L9 (cD n) n 1 h rfl (by omega)
 rw [show ((1:Nat):Int)=1 from rfl] at this
 rw [this,aA]
theorem Ma {l:List Int} {i:Nat} (hi:i≤7): ∀(d j n:Nat),j+d=i→n<2^64→Loop (nn (l,(i:Int))) ((n:Int),(j:Int))=some ((n/256^d:Nat):Int):=by
 intro d
 induction d with
 |zero=>
  intro j n hj hn
  refine fA ?_
  unfold nn
  simp only
  rw [if_neg (by omega)]
  simp
 |succ d ih=>
  intro j n hj hn
  refine dw (s':=(((n/256:Nat):Int),((j+1:Nat):Int))) ?_ ?_
  ·unfold nn
   simp only
   rw [if_pos (by omega),if_pos (by decide),Int.tdiv_eq_ediv_of_nonneg (by omega),kl,wrap64 (by omega) (by omega)]
   congr 3
   omega
  ·rw [ih (j+1) (n/256) (by omega) (by omega),Nat.pow_succ,Nat.mul_comm,Nat.div_div_eq_div_mul]
theorem Mb {n:Nat} (hn:n<2^64): ∀(j:Nat) (l:List Int),j≤8→l.length≤2^45+(8-j)→Loop (np (n:Int)) (l,(j:Int)-1)=some (l++mN j n):=by
 intro j
 induction j with
 |zero=>
  intro l _ _
  refine fA ?_
  unfold np
  simp only
  rw [if_neg (by omega)]
  simp [mN]
 |succ j ih=>
  intro l hj hl
  have hh:=ih (l++[((n/256^j%256:Nat):Int)]) (by omega) (by rw [List.length_append,List.length_singleton];omega)
  have e0:(((j+1:Nat):Int)-1)=(j:Int):=by omega
  rw [e0]
  refine dw (s':=(l++[((n/256^j%256:Nat):Int)],(j:Int)-1)) ?_ ?_
  ·unfold np
   simp only
   have e1:=Ma (l:=l) (i:=j) (by omega) j 0 n (by omega) hn
   rw [show ((0:Nat):Int)=0 from rfl] at e1
   rw [if_pos (by omega),e1,aA,if_pos (by decide),if_pos (by rw [List.length_singleton];omega),wrap64 (by omega) (by omega),w8,Int.tmod_eq_emod_of_nonneg (Int.natCast_nonneg _)]
   generalize n/256^j=x
   rw [show (x:Int)%256%256=((x%256:Nat):Int) by omega]
  ·rw [hh,mN,List.append_assoc];rfl
theorem uE {b:List Int} (hb:b.length≤2^44) {n:Nat} (h:n<2^64):om b (n:Int)=some (b++yo n):=by
 unfold om
 have hk:=jA n
 rw [if_pos (by simp only [List.length_nil];omega),FO h,aA,List.nil_append,show IntKind.wrap .i64 (((1+cD n:Nat):Int)-1)=(cD n:Int) by rw [wrap64 (by omega) (by omega)];omega,show IntKind.wrap .u8 (cD n:Int)=(cD n:Int) by rw [w8];omega,
  if_pos (by rw [List.length_singleton];omega),wrap64 (by omega) (by omega),Mb h (cD n) _ hk (by rw [List.length_append,List.length_singleton];omega),aA,List.append_assoc]
 rfl
theorem kA {b:List Int} (hb:b.length≤2^44) {n:Int} (h:i64 n):ju b n=some (b++pa n):=by
 unfold ju i64 at *
 have hz:=L6 (n:=n) h
 unfold pa
 by_cases c:n<0
 ·rw [if_pos c,wrap64 (x:=n+1) (by omega) (by omega),wrap64 (x:=0-(n+1)) (by omega) (by omega),kl,kl,kl,
   show (2 *((0-(n+1))%18446744073709551616)%18446744073709551616+1)%18446744073709551616=((zz n:Nat):Int) by unfold zz;rw [if_pos c];omega,uE hb hz,aA]
 ·rw [if_neg c,kl,kl,show 2 *(n%18446744073709551616)%18446744073709551616=((zz n:Nat):Int) by unfold zz;rw [if_neg c];omega,uE hb hz,aA]
theorem yq {b:List Int} (hb:b.length≤2^44) {s:List UInt8} (h:s.length≤2^44):nq b s=some (b++qf s):=by
 unfold nq
 have:=jA s.length
 rw [kl,show ((s.length:Int)%18446744073709551616)=((s.length:Nat):Int) by omega,uE hb (by omega),aA,if_pos (by rw [List.length_append,tD,nG];omega),List.append_assoc]
 rfl
def tG (b:List Int):Int:=match b with
 |[]=>2
 |y::r=>if 8<y.toNat∨(0<y.toNat∧r[0]? =some 0) then 3 else 2
theorem cV (b:List Int):tG b≠0:=by
 unfold tG;cases b with
 |nil=>decide
 |cons y r=>simp only;split<;>decide
def O4 (b:List Int):Int×List Int×Int:=match fB b with
 |some (n,r)=>((n:Int),r,0)
 |none=>(0,[],tG b)
theorem Mc {b:List Int} {y:Int} {m:List Int} (e:List.drop (Int.toNat 0) (List.take (Int.toNat (IntKind.wrap .i64 y)) (List.drop (Int.toNat 1) (List.take (Int.toNat (b.length:Int)) b)))=m) (hm:iM m) (h8:m.length≤8):
 ∀(d j acc:Nat),j+d=m.length→acc<256^j→Loop (iz b y) ((acc:Int),(j:Int))=some (oK acc (m.drop j):Int):=by
 intro d
 induction d with
 |zero=>
  intro j acc hj _
  refine fA ?_
  unfold iz
  rw [e]
  simp only
  rw [if_neg (by omega),show m.drop j=[] from List.drop_of_length_le (by omega)]
  rfl
 |succ d ih=>
  intro j acc hj ha
  have dE:j<m.length:=by omega
  have hc:=hm _ (List.getElem_mem dE)
  have Q5:256^(j+1)≤256^8:=Nat.pow_le_pow_right (by decide) (by omega)
  have hs:acc *256+m[j].toNat<256^(j+1):=by rw [Nat.pow_succ];omega
  have Wd:acc *256+m[j].toNat<2^64:=Nat.lt_of_lt_of_le hs (by simpa using Q5)
  refine dw (s':=(((acc *256+m[j].toNat:Nat):Int),((j+1:Nat):Int))) ?_ ?_
  ·unfold iz
   rw [e]
   simp only
   rw [if_pos (by omega),cG dE,if_pos (by decide),show min (Int.toNat 8) (IntKind.bits .u64)=8 by decide,kl,kl,wrap64 (by omega) (by omega),
    show (acc:Int) *2^8%18446744073709551616=((acc *256:Nat):Int) by omega,show m[j]%18446744073709551616=(m[j].toNat:Int) by omega,N2 (by omega) Wd]
   congr 3
  ·rw [ih (j+1) _ (by omega) hs,List.drop_eq_getElem_cons dE,oK]
theorem yr {b:List Int} (hb:iM b) (hl:b.length<2^40):jf b=some (O4 b):=by
 unfold jf O4
 cases b with
 |nil=>simp [fB,tG]
 |cons y l=>
  obtain ⟨hy,Bb⟩:=hb.cons
  have RA:l.length<2^40:=by simp only [List.length_cons] at hl;omega
  have e1:List.drop (Int.toNat 1) (List.take (Int.toNat (((y::l).length:Nat):Int)) (y::l))=l:=by simp
  have ey:IntKind.wrap .i64 y=y:=wrap64 (by omega) (by omega)
  rw [if_neg (by simp only [List.length_cons];omega),gn (by simp),if_pos ⟨by decide,by simp only [List.length_cons];omega,Int.le_refl _⟩,e1]
  simp only [List.getElem_cons_zero,ey]
  have hg:(if (8:Int)<y then some true else if (0:Int)<y then if (0:Int)<(l.length:Int) then ix l 0 fun y1=>some (decide (y1=0)) else some false else some false:Option Bool)=some (decide (8<y.toNat∨(0<y.toNat∧l[0]? =some 0))):=by
   by_cases c1:(8:Int)<y
   ·rw [if_pos c1,decide_eq_true (.inl (by omega))]
   ·rw [if_neg c1]
    by_cases c2:(0:Int)<y
    ·rw [if_pos c2]
     cases l with
     |nil=>simp;omega
     |cons c r=>
      rw [if_pos (by simp only [List.length_cons];omega),gn (by simp)]
      congr 1
      rw [decide_eq_decide]
      simp only [List.getElem_cons_zero,List.getElem?_cons_zero,Option.some.injEq]
      omega
    ·rw [if_neg c2,decide_eq_false (by omega)]
  rw [hg,aA]
  unfold fB tG
  simp only
  by_cases c1:8<y.toNat∨(0<y.toNat∧l[0]? =some 0)
  ·rw [if_pos (by simpa using c1),if_pos (by rcases c1 with h|h;exact .inl h;exact .inr (.inl h)),if_pos c1]
  ·rw [if_neg (by simpa using c1)]
   by_cases c2:l.length<y.toNat
   ·rw [if_pos (by omega),if_pos (.inr (.inr c2)),if_neg c1]
   ·have hlen:(l.take y.toNat).length=y.toNat:=by rw [List.length_take];omega
    have e2:List.drop (Int.toNat 0) (List.take (Int.toNat (IntKind.wrap .i64 y)) (List.drop (Int.toNat 1) (List.take (Int.toNat (((y::l).length:Nat):Int)) (y::l))))=l.take y.toNat:=by rw [e1,ey];simp
    have hL:=Mc e2 (Bb.take _) (by omega) y.toNat 0 0 (by omega) (by simp)
    simp only [Int.natCast_zero,List.drop_zero] at hL
    rw [if_neg (by omega),if_pos ⟨by decide,by omega,by omega⟩,hL,aA,if_pos ⟨by omega,by omega,by omega⟩,if_neg (by intro h;rcases h with h|h|h;exact c1 (.inl h);exact c1 (.inr h);exact c2 h)]
    simp
theorem zv {b:List Int} (hb:iM b) (hl:b.length<2^40):ga b=some (match cu b with|some (n,r)=>(n,r,0)|none=>(0,[],tG b)):=by
 unfold ga cu
 rw [yr hb hl,aA,if_pos (by decide)]
 unfold O4
 cases ht:fB b with
 |none=>
  simp only
  have e:tN .i64 (IntKind.wrap .i64 (Int.fdiv 0 (2^min (Int.toNat 1) (IntKind.bits .u64)))) (IntKind.wrap .i64 (0-(IntKind.wrap .i64 (Ed .u64 0 1))))=0:=by decide+kernel
  rw [e]
 |some p=>
  obtain ⟨u,r⟩:=p
  obtain ⟨_,hu,_⟩:=jo hb ht
  simp only
  congr 2
  rw [and_one hu,show Int.toNat 1=1 from rfl,tF u 1 (by decide),wrap64 (x:=((u/2^1:Nat):Int)) (by omega) (by omega)]
  unfold uz
  by_cases c:u%2=1
  ·rw [if_pos c,c,wrap64 (by decide) (by decide),wrap64 (by decide) (by decide),DR rfl (by omega) _ (by decide),W9]
   omega
  ·rw [if_neg c,show u%2=0 by omega,wrap64 (by decide) (by decide),wrap64 (by decide) (by decide),show (0:Int)-((0:Nat):Int)=0 by decide,xor_zero rfl (by omega),wrap64 (by omega) (by omega)]
def Mr (b:List Int) (most:Nat):List UInt8×List Int×Int:=match fB b with
 |some (n,r)=>if most<n then ([],[],5) else if r.length<n then ([],[],2) else (B1 (r.take n),r.drop n,0)
 |none=>([],[],tG b)
theorem uF (b:List Int) (most:Nat):(∃s r,jX b most=some (s,r)∧Mr b most=(s,r,0))∨(jX b most=none∧ ∃e,e≠0∧Mr b most=([],[],e)):=by
 unfold jX Mr
 cases fB b with
 |none=>exact .inr ⟨rfl,_,cV b,rfl⟩
 |some p=>
  obtain ⟨n,r⟩:=p
  simp only
  by_cases c1:most<n
  ·exact .inr ⟨if_pos (.inl c1),5,by decide,if_pos c1⟩
  ·by_cases c2:r.length<n
   ·exact .inr ⟨if_pos (.inr c2),2,by decide,by rw [if_neg c1,if_pos c2]⟩
   ·exact .inl ⟨_,_,if_neg (by intro h;rcases h with h|h;exact c1 h;exact c2 h),by rw [if_neg c1,if_neg c2]⟩
theorem oM {b:List Int} {n:Nat} {r:List Int} (h:fB b=some (n,r)):r.length≤b.length:=by
 unfold fB at h
 cases b with
 |nil=>cases h
 |cons y l=>
  simp only at h
  split at h
  ·cases h
  ·injection h with h
   injection h with _ h2
   rw [←h2,List.length_drop,List.length_cons];omega
theorem AM {n:Nat} {r:List Int} (hr:iM r) (hl:r.length<2^40) {most:Nat} (hm:most<2^40) (hn:n<2^64):
 (if (IntKind.wrap .u64 (imax (most:Int) 0))<(n:Int) then some (([]:List UInt8),([]:List Int),(5:Int)) else if (IntKind.wrap .u64 (r.length:Int))<(n:Int) then some (([]:List UInt8),([]:List Int),2)
 else if (0:Int)≤0∧(0:Int)≤(n:Int)∧(n:Int)≤(r.length:Int) then uk (List.drop (Int.toNat 0) (List.take (Int.toNat (n:Int)) r)) fun bs=>
  if (0:Int)≤(n:Int)∧(n:Int)≤(r.length:Int)∧(r.length:Int)≤(r.length:Int) then some (bs,List.drop (Int.toNat (n:Int)) (List.take (Int.toNat (r.length:Int)) r),0) else none
 else none)=some (if most<n then (([]:List UInt8),([]:List Int),(5:Int)) else if r.length<n then ([],[],2) else (B1 (r.take n),r.drop n,0)):=by
 have e1:IntKind.wrap .u64 (imax (most:Int) 0)=(most:Int):=by unfold imax;rw [kl];split<;>omega
 have e2:IntKind.wrap .u64 (r.length:Int)=(r.length:Int):=by rw [kl];omega
 rw [e1,e2]
 by_cases c1:most<n
 ·rw [if_pos (by omega),if_pos c1]
 ·rw [if_neg (by omega),if_neg c1]
  by_cases c2:r.length<n
  ·rw [if_pos (by omega),if_pos c2]
  ·rw [if_neg (by omega),if_neg c2,if_pos ⟨by decide,by omega,by omega⟩,show List.drop (Int.toNat 0) (List.take (Int.toNat (n:Int)) r)=r.take n by simp,tE (hr.take _),if_pos ⟨by omega,by omega,by omega⟩]
   simp
theorem yt {b:List Int} (hb:iM b) (hl:b.length<2^40) {most:Nat} (hm:most<2^40):dW b (most:Int)=some (Mr b most):=by
 unfold dW Mr
 rw [yr hb hl,aA]
 unfold O4
 cases ht:fB b with
 |none=>simp only [cV b,decide_false,Bool.not_false,if_true]
 |some p=>
  obtain ⟨n,r⟩:=p
  obtain ⟨_,hu,hr⟩:=jo hb ht
  have T8:=oM ht
  simp only [decide_true,Bool.not_true,Bool.false_eq_true,if_false]
  exact AM hr (by omega) hm hu
theorem Md {y:Int} {l:List Int} (hy:0≤y∧y≤8) (YO:y.toNat≤l.length) (hl:iM l):
 ∀(d j acc:Nat),j+d=y.toNat→acc<256^j→Loop (kX (y::l) y) ((acc:Int),((j+1:Nat):Int))=some (oK acc ((l.take y.toNat).drop j):Int):=by
 intro d
 have ey:IntKind.wrap .i64 y=y:=wrap64 (by omega) (by omega)
 induction d with
 |zero=>
  intro j acc hj _
  refine fA ?_
  unfold kX
  rw [ey]
  simp only
  rw [if_neg (by omega),show (l.take y.toNat).drop j=[] from List.drop_of_length_le (by rw [List.length_take];omega)]
  rfl
 |succ d ih=>
  intro j acc hj ha
  have dE:j<l.length:=by omega
  have hc:=hl _ (List.getElem_mem dE)
  have Q5:256^(j+1)≤256^8:=Nat.pow_le_pow_right (by decide) (by omega)
  have hs:acc *256+l[j].toNat<256^(j+1):=by rw [Nat.pow_succ];omega
  have Wd:acc *256+l[j].toNat<2^64:=Nat.lt_of_lt_of_le hs (by simpa using Q5)
  refine dw (s':=(((acc *256+l[j].toNat:Nat):Int),((j+1+1:Nat):Int))) ?_ ?_
  ·unfold kX
   rw [ey]
   simp only
   rw [if_pos (by omega),cG (by simp only [List.length_cons];omega),List.getElem_cons_succ,kl,kl,kl,wrap64 (by omega) (by omega)]
   congr 3
   omega
  ·have Xa:j<(l.take y.toNat).length:=by rw [List.length_take];omega
   rw [ih (j+1) _ (by omega) hs,List.drop_eq_getElem_cons Xa,oK,List.getElem_take]
theorem yu {b:List Int} (hb:iM b) (hl:b.length<2^40):nm b=some (O4 b):=by
 unfold nm O4
 cases b with
 |nil=>simp [fB,tG]
 |cons y l=>
  obtain ⟨hy,Bb⟩:=hb.cons
  have RA:l.length<2^40:=by simp only [List.length_cons] at hl;omega
  have ey:IntKind.wrap .i64 y=y:=wrap64 (by omega) (by omega)
  rw [if_neg (by simp only [List.length_cons];omega),gn (by simp)]
  simp only [List.getElem_cons_zero,ey]
  have hg:(if (8:Int)<y then some true else if (0:Int)<y then if (1:Int)<((y::l).length:Int) then ix (y::l) 1 fun y1=>some (decide (y1=0)) else some false else some false:Option Bool)=some (decide (8<y.toNat∨(0<y.toNat∧l[0]? =some 0))):=by
   by_cases c1:(8:Int)<y
   ·rw [if_pos c1,decide_eq_true (.inl (by omega))]
   ·rw [if_neg c1]
    by_cases c2:(0:Int)<y
    ·rw [if_pos c2]
     cases l with
     |nil=>simp;omega
     |cons c r=>
      rw [if_pos (by simp only [List.length_cons];omega),show (1:Int)=((1:Nat):Int) from rfl,cG (by simp)]
      congr 1
      rw [decide_eq_decide]
      simp only [List.getElem_cons_succ,List.getElem_cons_zero,List.getElem?_cons_zero,Option.some.injEq]
      omega
    ·rw [if_neg c2,decide_eq_false (by omega)]
  rw [hg,aA]
  unfold fB tG
  simp only
  by_cases c1:8<y.toNat∨(0<y.toNat∧l[0]? =some 0)
  ·rw [if_pos (by simpa using c1),if_pos (by rcases c1 with h|h;exact .inl h;exact .inr (.inl h)),if_pos c1]
  ·rw [if_neg (by simpa using c1),wrap64 (x:=1+y) (by omega) (by omega)]
   by_cases c2:l.length<y.toNat
   ·rw [if_pos (by simp only [List.length_cons];omega),if_pos (.inr (.inr c2)),if_neg c1]
   ·have hL:=Md (y:=y) (l:=l) ⟨by omega,by omega⟩ (by omega) Bb y.toNat 0 0 (by omega) (by simp)
    simp only [Int.natCast_zero,List.drop_zero,Nat.zero_add,Int.natCast_one] at hL
    rw [if_neg (by simp only [List.length_cons];omega),hL,aA,if_pos ⟨by omega,by simp only [List.length_cons];omega,by omega⟩,if_neg (by intro h;rcases h with h|h|h;exact c1 (.inl h);exact c1 (.inr h);exact c2 h)]
    congr 3
    rw [show Int.toNat (1+y)=y.toNat+1 by omega]
    simp
theorem rD {b:List Int} (hb:iM b) (hl:b.length<2^40):jI b=some (match cu b with|some (n,r)=>(n,r,0)|none=>(0,[],tG b)):=by
 unfold jI cu
 rw [yu hb hl,aA]
 unfold O4
 cases ht:fB b with
 |none=>simp only [cV b,decide_false,Bool.not_false,if_true]
 |some p=>
  obtain ⟨u,r⟩:=p
  obtain ⟨_,hu,_⟩:=jo hb ht
  simp only [decide_true,Bool.not_true,Bool.false_eq_true,if_false]
  rw [if_pos (show (!decide ((2:Int)=0))=true by decide),Int.tmod_eq_emod_of_nonneg (Int.natCast_nonneg _),Int.tdiv_eq_ediv_of_nonneg (Int.natCast_nonneg _),kl]
  unfold uz
  by_cases c:u%2=1
  ·rw [if_pos (by omega),if_pos (show (!decide ((2:Int)=0))=true by decide),if_pos c,wrap64 (x:=(u:Int)/2%18446744073709551616) (by omega) (by omega),wrap64 (x:=0-(u:Int)/2%18446744073709551616) (by omega) (by omega),wrap64 (by omega) (by omega)]
   congr 2
   omega
  ·rw [if_neg (by omega),if_pos (show (!decide ((2:Int)=0))=true by decide),if_neg c,wrap64 (by omega) (by omega)]
   congr 2
   omega
theorem qg {b:List Int} (hb:iM b) (hl:b.length<2^40) {most:Nat} (hm:most<2^40):dA b (most:Int)=some (Mr b most):=by
 unfold dA Mr
 rw [yu hb hl,aA]
 unfold O4
 cases ht:fB b with
 |none=>simp only [cV b,decide_false,Bool.not_false,if_true]
 |some p=>
  obtain ⟨n,r⟩:=p
  obtain ⟨_,hu,hr⟩:=jo hb ht
  have T8:=oM ht
  simp only [decide_true,Bool.not_true,Bool.false_eq_true,if_false]
  exact AM hr (by omega) hm hu
end Dn.S
