import Derived.Test.YtjblhgpbkfmkoaaDnD
import Derived.Test.YtjblhgpbkfmkoaaDnYV
/-
  Numbers and texts as bytes. Conditions: none.
-/
open Go Dn
set_option linter.unusedVariables false
set_option linter.unusedSimpArgs false
namespace Dn.S
theorem EC {σ ρ:Type} {body:σ→Option (Sum σ ρ)} {s:σ} {r:ρ} (h:Loop body s=some r): ∃n,iter body n s=some r:=by
 unfold Loop at h
 split at h
 ·rename_i he
  obtain ⟨n,hn⟩:=Classical.choose_spec he
  injection h with h
  exact ⟨n,by rw [←h];exact hn⟩
 ·cases h
theorem rI {σ ρ:Type} {body:σ→Option (Sum σ ρ)} {s:σ} {r:ρ} (h:body s=some (.inr r)):Loop body s=some r:=ea (n:=1) (by simp [iter,h])
theorem kw {σ ρ:Type} {body:σ→Option (Sum σ ρ)} {s s':σ} {r:ρ} (h:body s=some (.inl s')) (h2:Loop body s'=some r):Loop body s=some r:=by
 obtain ⟨n,hn⟩:=EC h2
 exact ea (n:=n+1) (by simp only [iter,h];exact hn)
theorem w8 (x:Int):IntKind.wrap .u8 x=x%256:=by simp [IntKind.wrap,IntKind.bits,IntKind.signed]
theorem yp (x:Int):IntKind.wrap .u64 x=x%18446744073709551616:=by simp [IntKind.wrap,IntKind.bits,IntKind.signed]
theorem adT (x:Int):IntKind.wrap .i64 x=(x+9223372036854775808)%18446744073709551616-9223372036854775808:=by rw [IntKind.wrap_i64]
def dC (n:Nat):Nat:=if n=0 then 0 else if n<256 then 1 else if n<65536 then 2 else if n<16777216 then 3 else if n<4294967296 then 4 else if n<1099511627776 then 5 else if n<281474976710656 then 6 else if n<72057594037927936 then 7 else 8
def qF:Nat→Nat→List Int
 |0,_=>[]
 |k+1,n=>((n/256^k%256:Nat):Int)::qF k n
def rJ:Nat→List Int→Nat
 |acc,[]=>acc
 |acc,c::l=>rJ (acc *256+c.toNat) l
def ma (l:List Int):Prop:= ∀x∈l,0≤x∧x<256
theorem ma.cons {c:Int} {l:List Int} (h:ma (c::l)):(0≤c∧c<256)∧ma l:=⟨h c (by simp),fun x hx=>h x (by simp [hx])⟩
theorem ma.app {l m:List Int} (h:ma l) (h2:ma m):ma (l++m):=fun x hx=>by
 rcases List.mem_append.1 hx with hx|hx
 ·exact h x hx
 ·exact h2 x hx
theorem ma.drop {l:List Int} (n:Nat) (h:ma l):ma (l.drop n):=fun x hx=>h x (List.mem_of_mem_drop hx)
theorem ma.take {l:List Int} (n:Nat) (h:ma l):ma (l.take n):=fun x hx=>h x (List.mem_of_mem_take hx)
theorem vO (k n:Nat):(qF k n).length=k:=by
 induction k with
 |zero=>rfl
 |succ k ih=>simp [qF,ih]
theorem PI (k n:Nat):ma (qF k n):=by
 induction k with
 |zero=>intro x hx;simp [qF] at hx
 |succ k ih=>
  intro x hx
  rcases List.mem_cons.1 hx with rfl|hx
  ·omega
  ·exact ih x hx
theorem sE (n:Nat):dC n≤8:=by
 unfold dC;repeat' split
 all_goals omega
theorem AY (m:Nat):(m=0∧dC m=0)∨(1≤m∧m<256∧dC m=1)∨(256≤m∧m<65536∧dC m=2)∨(65536≤m∧m<16777216∧dC m=3)∨(16777216≤m∧m<4294967296∧dC m=4)∨(4294967296≤m∧m<1099511627776∧dC m=5)∨(1099511627776≤m∧m<281474976710656∧dC m=6)∨(281474976710656≤m∧m<72057594037927936∧dC m=7)∨(72057594037927936≤m∧dC m=8):=by
 by_cases c0:m=0
 ·exact .inl ⟨c0,by unfold dC;rw [if_pos c0]⟩
 by_cases c1:m<256
 ·exact .inr (.inl ⟨by omega,c1,by unfold dC;rw [if_neg c0,if_pos c1]⟩)
 by_cases c2:m<65536
 ·exact .inr (.inr (.inl ⟨by omega,c2,by unfold dC;rw [if_neg c0,if_neg c1,if_pos c2]⟩))
 by_cases c3:m<16777216
 ·exact .inr (.inr (.inr (.inl ⟨by omega,c3,by unfold dC;rw [if_neg c0,if_neg c1,if_neg c2,if_pos c3]⟩)))
 by_cases c4:m<4294967296
 ·exact .inr (.inr (.inr (.inr (.inl ⟨by omega,c4,by unfold dC;rw [if_neg c0,if_neg c1,if_neg c2,if_neg c3,if_pos c4]⟩))))
 by_cases c5:m<1099511627776
 ·exact .inr (.inr (.inr (.inr (.inr (.inl ⟨by omega,c5,by unfold dC;rw [if_neg c0,if_neg c1,if_neg c2,if_neg c3,if_neg c4,if_pos c5]⟩)))))
 by_cases c6:m<281474976710656
 ·exact .inr (.inr (.inr (.inr (.inr (.inr (.inl ⟨by omega,c6,by unfold dC;rw [if_neg c0,if_neg c1,if_neg c2,if_neg c3,if_neg c4,if_neg c5,if_pos c6]⟩))))))
 by_cases c7:m<72057594037927936
 ·exact .inr (.inr (.inr (.inr (.inr (.inr (.inr (.inl ⟨by omega,c7,by unfold dC;rw [if_neg c0,if_neg c1,if_neg c2,if_neg c3,if_neg c4,if_neg c5,if_neg c6,if_pos c7]⟩)))))))
 exact .inr (.inr (.inr (.inr (.inr (.inr (.inr (.inr (⟨by omega,by unfold dC;rw [if_neg c0,if_neg c1,if_neg c2,if_neg c3,if_neg c4,if_neg c5,if_neg c6,if_neg c7]⟩))))))))
theorem jm {n:Nat} (h:0<n) (hb:n<2^64):dC n=dC (n/256)+1:=by
 rcases AY n with a|a|a|a|a|a|a|a|a<;>rcases AY (n/256) with b|b|b|b|b|b|b|b|b<;>omega
theorem LI {n:Nat} (h:dC n=0):n=0:=by
 unfold dC at h
 repeat' split at h
 all_goals first|assumption|omega
theorem PJ: ∀(k n:Nat),n<2^64→dC n=k→n<256^k∧(0<k→256^(k-1)≤n):=by
 intro k
 induction k with
 |zero=>intro n hn h;have:=LI h;subst this;simp
 |succ k ih=>
  intro n hn h
  have h0:0<n:=by
   refine Nat.pos_of_ne_zero fun h0=> ?_
   subst h0;simp [dC] at h
  have hs:=jm h0 hn
  obtain ⟨h1,h2⟩:=ih (n/256) (by omega) (by omega)
  refine ⟨?_,fun _=> ?_⟩
  ·rw [Nat.pow_succ];omega
  ·by_cases hk:k=0
   ·subst hk;simp;omega
   ·have:=h2 (by omega)
    rw [show k+1-1=(k-1)+1 by omega,Nat.pow_succ]
    omega
theorem RV: ∀(k n:Nat),k≤8→n<256^k→(0<k→256^(k-1)≤n)→dC n=k:=by
 intro k
 induction k with
 |zero=>intro n _ h _;simp at h;subst h;rfl
 |succ k ih=>
  intro n hk h1 h2
  have h2:=h2 (by omega)
  have hp:0<n:=Nat.lt_of_lt_of_le (Nat.pow_pos (by decide)) h2
  have hb:n<2^64:=by
   refine Nat.lt_of_lt_of_le h1 ?_
   have:=Nat.pow_le_pow_right (n:=256) (by decide) hk
   simpa using this
  rw [jm hp hb,ih (n/256) (by omega) (by rw [Nat.pow_succ] at h1;omega) (fun Wb=> ?_)]
  rw [show k+1-1=(k-1)+1 by omega,Nat.pow_succ] at h2
  omega
theorem LJ: ∀(k acc n:Nat),rJ acc (qF k n)=acc *256^k+n%256^k:=by
 intro k
 induction k with
 |zero=>intro acc n;simp [qF,rJ,Nat.mod_one]
 |succ k ih=>
  intro acc n
  simp only [qF,rJ,Int.toNat_natCast]
  rw [ih,Nat.pow_succ,Nat.mod_mul,Nat.add_mul,Nat.mul_assoc,Nat.mul_comm 256,Nat.mul_comm (n/256^k%256)]
  omega
theorem uk: ∀(l:List Int) (acc:Nat),rJ acc l=acc *256^l.length+rJ 0 l:=by
 intro l
 induction l with
 |nil=>intro acc;simp [rJ]
 |cons c l ih=>
  intro acc
  simp only [rJ,List.length_cons]
  rw [ih (acc *256+c.toNat),ih (0 *256+c.toNat),Nat.pow_succ,Nat.zero_mul,Nat.zero_add,Nat.add_mul,Nat.mul_assoc,Nat.mul_comm 256]
  omega
theorem J8: ∀(l:List Int),ma l→rJ 0 l<256^l.length:=by
 intro l
 induction l with
 |nil=>intro _;simp [rJ]
 |cons c l ih=>
  intro h
  obtain ⟨hc,hl⟩:=h.cons
  have ih:=ih hl
  simp only [rJ,List.length_cons]
  rw [uk,Nat.zero_mul,Nat.zero_add,Nat.pow_succ]
  have h1:c.toNat≤255:=by omega
  have h2:=Nat.mul_le_mul_right (256^l.length) h1
  omega
theorem PK: ∀(k a n:Nat),qF k (a *256^k+n)=qF k n:=by
 intro k
 induction k with
 |zero=>intro a n;rfl
 |succ k ih=>
  intro a n
  simp only [qF]
  have e:a *256^(k+1)+n=a *256 *256^k+n:=by rw [Nat.pow_succ,Nat.mul_assoc,Nat.mul_comm 256]
  rw [e,ih (a *256) n,Nat.add_comm (a *256 *256^k),Nat.add_mul_div_right _ _ (Nat.pow_pos (by decide))]
  congr 2
  omega
theorem PL: ∀(l:List Int),ma l→qF l.length (rJ 0 l)=l:=by
 intro l
 induction l with
 |nil=>intro _;rfl
 |cons c l ih=>
  intro h
  obtain ⟨hc,hl⟩:=h.cons
  have cA:=J8 l hl
  simp only [rJ,List.length_cons,qF]
  rw [uk,Nat.zero_mul,Nat.zero_add,PK,ih hl]
  congr 1
  rw [Nat.add_comm,Nat.add_mul_div_right _ _ (Nat.pow_pos (by decide)),Nat.div_eq_of_lt cA]
  omega
def B3 (n:Nat):List Int:=(dC n:Int)::qF (dC n) n
theorem GN (n:Nat):ma (B3 n):=by
 intro x hx
 rcases List.mem_cons.1 hx with rfl|hx
 ·have:=sE n;omega
 ·exact PI _ _ x hx
theorem AZ (n:Nat):(B3 n).length=dC n+1:=by simp [B3,vO]
def jQ (b:List Int):Option (Nat×List Int):=match b with
 |[]=>none
 |y::r=>if 8<y.toNat∨(0<y.toNat∧r[0]? =some 0)∨r.length<y.toNat then none else some (rJ 0 (r.take y.toNat),r.drop y.toNat)
theorem De {n:Nat} (hn:n<2^64) (r:List Int):jQ (B3 n++r)=some (n,r):=by
 have hk:=sE n
 obtain ⟨h1,h2⟩:=PJ _ n hn rfl
 unfold jQ B3
 simp only [List.cons_append,Int.toNat_natCast]
 rw [if_neg]
 ·rw [List.take_left' (vO _ _),List.drop_left' (vO _ _),LJ,Nat.zero_mul,Nat.zero_add,Nat.mod_eq_of_lt h1]
 ·rintro (h|⟨h,h3⟩|h)
  ·omega
  ·have h2:=h2 h
   obtain ⟨k,EP⟩: ∃k,dC n=k+1:=⟨dC n-1,by omega⟩
   rw [EP] at h1 h2 h3
   simp only [qF,List.cons_append,List.getElem?_cons_zero,Option.some.injEq,Nat.add_sub_cancel] at h3 h2
   rw [Nat.pow_succ] at h1
   have hd:n/256^k<256:=by rw [Nat.div_lt_iff_lt_mul (Nat.pow_pos (by decide))];rw [Nat.mul_comm];exact h1
   have Ok:1≤n/256^k:=by rw [Nat.le_div_iff_mul_le (Nat.pow_pos (by decide))];omega
   omega
  ·rw [List.length_append,vO] at h;omega
theorem qm {b:List Int} (hb:ma b) {n:Nat} {r:List Int} (h:jQ b=some (n,r)):b=B3 n++r∧n<2^64∧ma r:=by
 unfold jQ at h
 cases b with
 |nil=>cases h
 |cons y l=>
  simp only at h
  obtain ⟨hy,hl⟩:=hb.cons
  split at h
  ·cases h
  ·rename_i hc
   injection h with h
   injection h with h1 h2
   have hlen:(l.take y.toNat).length=y.toNat:=by rw [List.length_take];omega
   have cA:=J8 _ (hl.take y.toNat)
   rw [hlen] at cA
   have hk:dC n=y.toNat:=by
    refine RV _ _ (by omega) (by rw [←h1];exact cA) (fun h0=> ?_)
    rw [←h1]
    cases l with
    |nil=>simp only [List.length_nil] at hc;omega
    |cons c l=>
     have Zu:c≠0:=fun h=>hc (.inr (.inl ⟨h0,by rw [h];rfl⟩))
     obtain ⟨k,hk⟩: ∃k,y.toNat=k+1:=⟨y.toNat-1,by omega⟩
     rw [hk] at hlen
     rw [hk,Nat.add_sub_cancel,List.take_succ_cons,rJ,uk]
     have hll:(l.take k).length=k:=by simpa using hlen
     rw [hll,Nat.zero_mul,Nat.zero_add]
     have:=Nat.mul_le_mul_right (256^k) (show 1≤c.toNat by have:=hl.cons.1;omega)
     omega
   refine ⟨?_,?_,?_⟩
   ·unfold B3
    rw [hk,List.cons_append,←h1,←h2]
    have:=PL _ (hl.take y.toNat)
    rw [hlen] at this
    rw [this,List.take_append_drop]
    congr 1
    omega
   ·rw [←h1]
    refine Nat.lt_of_lt_of_le cA ?_
    have:=Nat.pow_le_pow_right (n:=256) (by decide) (show y.toNat≤8 by omega)
    simpa using this
   ·rw [←h2];exact hl.drop _
def zz (n:Int):Nat:=if n<0 then (2 *(-(n+1))+1).toNat else (2 *n).toNat
def uz (u:Nat):Int:=if u%2=1 then-((u/2:Nat):Int)-1 else ((u/2:Nat):Int)
def i64 (n:Int):Prop:= -9223372036854775808≤n∧n≤9223372036854775807
theorem S2 {n:Int} (h:i64 n):zz n<2^64:=by unfold zz;unfold i64 at h;split<;>omega
theorem Y9 {n:Int}:uz (zz n)=n:=by
 unfold zz uz
 split<;>split<;>omega
theorem Za {u:Nat}:zz (uz u)=u:=by
 unfold zz uz
 split<;>split<;>omega
theorem VQ {u:Nat} (h:u<2^64):i64 (uz u):=by
 unfold uz i64
 split<;>omega
def sO (n:Int):List Int:=B3 (zz n)
def tq (s:List UInt8):List Int:=B3 s.length++u5 s
theorem PM (s:List UInt8):ma (u5 s):=by
 intro x hx
 unfold u5 at hx
 obtain ⟨b,_,rfl⟩:=List.mem_map.1 hx
 have:=UInt8.toNat_lt b
 omega
theorem rK (s:List UInt8):(u5 s).length=s.length:=by simp [u5]
theorem pa (n:Int):ma (sO n):=GN _
theorem Df (s:List UInt8):ma (tq s):=(GN _).app (PM s)
def ED (l:List Int):List UInt8:=l.map fun n=>UInt8.ofNat n.toNat
theorem LL (s:List UInt8):ED (u5 s)=s:=by
 unfold ED u5
 rw [List.map_map]
 conv=>rhs;rw [←List.map_id s]
 apply List.map_congr_left
 intro b _
 simp
theorem LM {l:List Int} (h:ma l):u5 (ED l)=l:=by
 unfold ED u5
 rw [List.map_map]
 conv=>rhs;rw [←List.map_id l]
 apply List.map_congr_left
 intro b hb
 have:=h b hb
 simp only [Function.comp,UInt8.toNat_ofNat',id]
 omega
theorem ma.all {l:List Int} (h:ma l):l.all isByte=true:=by
 rw [List.all_eq_true]
 intro x hx
 have:=h x hx
 unfold isByte
 refine decide_eq_true ?_
 rw [UInt8.toNat_ofNat']
 omega
theorem PN {R:Type} {l:List Int} (h:ma l) (K:List UInt8→Option R):Ga l K=K (ED l):=by
 unfold Ga
 rw [if_pos h.all];rfl
def fC (b:List Int):Option (Int×List Int):=match jQ b with|some (u,r)=>some (uz u,r)|none=>none
def nP (b:List Int) (most:Nat):Option (List UInt8×List Int):=match jQ b with
 |some (n,r)=>if most<n∨r.length<n then none else some (ED (r.take n),r.drop n)
 |none=>none
theorem mb {n:Int} (h:i64 n) (r:List Int):fC (sO n++r)=some (n,r):=by
 unfold fC sO
 rw [De (S2 h)]
 simp only [Y9]
theorem fj {b:List Int} (hb:ma b) {n:Int} {r:List Int} (h:fC b=some (n,r)):b=sO n++r∧i64 n∧ma r:=by
 unfold fC at h
 cases ht:jQ b with
 |none=>rw [ht] at h;cases h
 |some p=>
  obtain ⟨u,r'⟩:=p
  rw [ht] at h
  injection h with h
  injection h with h1 h2
  subst h1;subst h2
  obtain ⟨e,hu,hr⟩:=qm hb ht
  exact ⟨by unfold sO;rw [Za];exact e,VQ hu,hr⟩
theorem Dg {s:List UInt8} {most:Nat} (h:s.length≤most) (hm:most<2^64) (r:List Int):nP (tq s++r) most=some (s,r):=by
 unfold nP tq
 rw [List.append_assoc,De (by omega)]
 simp only
 rw [if_neg (by rw [List.length_append,rK];omega),List.take_left' (rK s),List.drop_left' (rK s),LL]
theorem A0 {b:List Int} (hb:ma b) {most:Nat} {s:List UInt8} {r:List Int} (h:nP b most=some (s,r)):b=tq s++r∧s.length≤most∧ma r:=by
 unfold nP at h
 cases ht:jQ b with
 |none=>rw [ht] at h;cases h
 |some p=>
  obtain ⟨n,r'⟩:=p
  rw [ht] at h
  simp only at h
  split at h
  ·cases h
  ·rename_i hc
   injection h with h
   injection h with h1 h2
   obtain ⟨e,hu,hr⟩:=qm hb ht
   have hl:s.length=n:=by rw [←h1];unfold ED;rw [List.length_map,List.length_take];omega
   refine ⟨?_,by omega,by rw [←h2];exact hr.drop _⟩
   unfold tq
   rw [hl,e,List.append_assoc,←h1,←h2,LM (hr.take _),List.take_append_drop]
end Dn.S
