import Derived.Test.YtbkodohojpchjaaGreatDoorDnD
import Derived.Test.YtbkodohojpchjaaGreatDoorDnYT
/- Numbers and texts as bytes. Conditions: none. -/
set_option linter.unusedVariables false
set_option linter.unusedSimpArgs false
open Nat renaming pow_succ→bB,mul_comm→AI,zero_mul→AS,zero_add→AT,lt_of_lt_of_le→By,pow_pos→BY,add_mul_div_right→No,pow_le_pow_right→aar,mul_le_mul_right→aas,add_sub_cancel→aaR,add_comm→aa1,add_mul→aa3
open Go.IntKind renaming wrap→sh,bits→aa0
open List renaming length_cons→IN,cons_append→IT,take_append_drop→OF,map_congr_left→aaC,length_append→aaS,append_assoc→aaV,length_take→aaW,take_left'→aaX,drop_left'→aaY,mem_cons→aaZ,map_map→aa2
open UInt8 renaming toNat_ofNat'→aaT
open Int renaming toNat_natCast→aaU
open Option.some renaming injEq→aa4
open Go Dn
namespace Dn.S
theorem OZ {σ ρ:Type}{body:σ->Option (Sum σ ρ)}{s:σ}{r:ρ}(h:Loop body s=some r): ∃n,iter body n s=some r:=by
 unfold Loop at h;split at h
 ·rename_i he;obtain ⟨n,hn⟩:=Classical.choose_spec he;injection h with h;exact ⟨n,by rw [<-h];exact hn⟩
 ·cases h
theorem ub {σ ρ:Type}{body:σ->Option (Sum σ ρ)}{s:σ}{r:ρ}(h:body s=some (.inr r)):Loop body s=some r:=j9 (n:=1) (by simp [iter,h])
theorem Bz {σ ρ:Type}{body:σ->Option (Sum σ ρ)} {s s':σ}{r:ρ}(h:body s=some (.inl s'))(h2:Loop body s'=some r):Loop body s=some r:=by obtain ⟨n,hn⟩:=OZ h2;exact j9 (n:=n+1) (by simp only [iter,h];exact hn)
theorem w8 (x:Int):sh .u8 x=x%256:=by simp [sh,aa0,IntKind.signed]
theorem FN (x:Int):sh .u64 x=x%18446744073709551616:=by simp [sh,aa0,IntKind.signed]
theorem ans (x:Int):sh .i64 x=(x+9223372036854775808)%18446744073709551616-9223372036854775808:=by rw [IntKind.wrap_i64]
def gw (n:Nat):Nat:=if n=0 then 0 else if n<256 then 1 else if n<65536 then 2 else if n<16777216 then 3 else if n<4294967296 then 4 else if n<1099511627776 then 5 else if n<281474976710656 then 6 else if n<72057594037927936 then 7 else 8
def zG:Nat->Nat->List Int
 |0,_=>[]
 |k+1,n=>((n/256^k%256:Nat):Int)::zG k n
def AV:Nat->List Int->Nat
 |acc,[]=>acc
 |acc,c::l=>AV (acc *256+c.toNat) l
def qO (l:List Int):Prop:= ∀x∈l,0<=x/\x<256
theorem qO.cons {c:Int}{l:List Int}(h:qO (c::l)):(0<=c/\c<256)/\qO l:=⟨h c (by simp),λx hx=>h x (by simp [hx])⟩
theorem qO.app {l m:List Int}(h:qO l)(h2:qO m):qO (l++m):=λx hx=>by
 rcases List.mem_append.1 hx with hx|hx
 ·exact h x hx
 ·exact h2 x hx
theorem qO.drop {l:List Int}(n:Nat)(h:qO l):qO (l.drop n):=λx hx=>h x (List.mem_of_mem_drop hx)
theorem qO.take {l:List Int}(n:Nat)(h:qO l):qO (l.take n):=λx hx=>h x (List.mem_of_mem_take hx)
theorem EH (k n:Nat):(zG k n).length=k:=by
 induction k with
 |zero=>rfl
 |succ k ih=>simp [zG,ih]
theorem aaG (k n:Nat):qO (zG k n):=by
 induction k with
 |zero=>intro x hx;simp [zG] at hx
 |succ k ih=>
  intro x hx;rcases aaZ.1 hx with rfl|hx
  ·omega
  ·exact ih x hx
theorem vo (n:Nat):gw n<=8:=by
 unfold gw;repeat' split
 all_goals omega
theorem KC (m:Nat):(m=0/\gw m=0)\/(1<=m/\m<256/\gw m=1)\/(256<=m/\m<65536/\gw m=2)\/(65536<=m/\m<16777216/\gw m=3)\/(16777216<=m/\m<4294967296/\gw m=4)\/(4294967296<=m/\m<1099511627776/\gw m=5)\/(1099511627776<=m/\m<281474976710656/\gw m=6)\/(281474976710656<=m/\m<72057594037927936/\gw m=7)\/(72057594037927936<=m/\gw m=8):=by
 by_cases c0:m=0
 ·exact .inl ⟨c0,by unfold gw;rw [if_pos c0]⟩
 by_cases c1:m<256
 ·exact .inr (.inl ⟨by omega,c1,by unfold gw;rw [if_neg c0,if_pos c1]⟩)
 by_cases c2:m<65536
 ·exact .inr (.inr (.inl ⟨by omega,c2,by unfold gw;rw [if_neg c0,if_neg c1,if_pos c2]⟩))
 by_cases c3:m<16777216
 ·exact .inr (.inr (.inr (.inl ⟨by omega,c3,by unfold gw;rw [if_neg c0,if_neg c1,if_neg c2,if_pos c3]⟩)))
 by_cases c4:m<4294967296
 ·exact .inr (.inr (.inr (.inr (.inl ⟨by omega,c4,by unfold gw;rw [if_neg c0,if_neg c1,if_neg c2,if_neg c3,if_pos c4]⟩))))
 by_cases c5:m<1099511627776
 ·exact .inr (.inr (.inr (.inr (.inr (.inl ⟨by omega,c5,by unfold gw;rw [if_neg c0,if_neg c1,if_neg c2,if_neg c3,if_neg c4,if_pos c5]⟩)))))
 by_cases c6:m<281474976710656
 ·exact .inr (.inr (.inr (.inr (.inr (.inr (.inl ⟨by omega,c6,by unfold gw;rw [if_neg c0,if_neg c1,if_neg c2,if_neg c3,if_neg c4,if_neg c5,if_pos c6]⟩))))))
 by_cases c7:m<72057594037927936
 ·exact .inr (.inr (.inr (.inr (.inr (.inr (.inr (.inl ⟨by omega,c7,by unfold gw;rw [if_neg c0,if_neg c1,if_neg c2,if_neg c3,if_neg c4,if_neg c5,if_neg c6,if_pos c7]⟩)))))))
 exact .inr (.inr (.inr (.inr (.inr (.inr (.inr (.inr (⟨by omega,by unfold gw;rw [if_neg c0,if_neg c1,if_neg c2,if_neg c3,if_neg c4,if_neg c5,if_neg c6,if_neg c7]⟩))))))))
theorem ou {n:Nat}(h:0<n)(hb:n<2^64):gw n=gw (n/256)+1:=by rcases KC n with a|a|a|a|a|a|a|a|a<;>rcases KC (n/256) with b|b|b|b|b|b|b|b|b<;>omega
theorem WC {n:Nat}(h:gw n=0):n=0:=by
 unfold gw at h;repeat' split at h
 all_goals first|assumption|omega
theorem aaH: ∀(k n:Nat),n<2^64->gw n=k->n<256^k/\(0<k->256^(k-1)<=n):=by
 intro k;induction k with
 |zero=>intro n hn h;have:=WC h;subst this;simp
 |succ k ih=>
  intro n hn h;have h0:0<n:=by refine Nat.pos_of_ne_zero λh0=> ?_;subst h0;simp [gw] at h
  have hs:=ou h0 hn;obtain ⟨h1,h2⟩:=ih (n/256) (by omega) (by omega);refine ⟨?_,λ_=> ?_⟩
  ·rw [bB];omega
  ·by_cases hk:k=0
   ·subst hk;simp;omega
   ·have:=h2 (by omega);rw [show k+1-1=(k-1)+1 by omega,bB];omega
theorem ac8: ∀(k n:Nat),k<=8->n<256^k->(0<k->256^(k-1)<=n)->gw n=k:=by
 intro k;induction k with
 |zero=>intro n _ h _;simp at h;subst h;rfl
 |succ k ih=>
  intro n hk h1 h2;have h2:=h2 (by omega);have hp:0<n:=By (BY (by decide)) h2;have hb:n<2^64:=by refine By h1 ?_;have:=aar (n:=256) (by decide) hk;simpa using this
  rw [ou hp hb,ih (n/256) (by omega) (by rw [bB] at h1;omega) (λhk0=> ?_)];rw [show k+1-1=(k-1)+1 by omega,bB] at h2;omega
theorem WD: ∀(k acc n:Nat),AV acc (zG k n)=acc *256^k+n%256^k:=by
 intro k;induction k with
 |zero=>intro acc n;simp [zG,AV,Nat.mod_one]
 |succ k ih=>intro acc n;simp only [zG,AV,aaU];rw [ih,bB,Nat.mod_mul,aa3,Nat.mul_assoc,AI 256,AI (n/256^k%256)];omega
theorem CP: ∀(l:List Int) (acc:Nat),AV acc l=acc *256^l.length+AV 0 l:=by
 intro l;induction l with
 |nil=>intro acc;simp [AV]
 |cons c l ih=>intro acc;simp only [AV,IN];rw [ih (acc *256+c.toNat),ih (0 *256+c.toNat),bB,AS,AT,aa3,Nat.mul_assoc,AI 256];omega
theorem UR: ∀(l:List Int),qO l->AV 0 l<256^l.length:=by
 intro l;induction l with
 |nil=>intro _;simp [AV]
 |cons c l ih=>
  intro h;obtain ⟨hc,hl⟩:=h.cons;have ih:=ih hl;simp only [AV,IN];rw [CP,AS,AT,bB];have h1:c.toNat<=255:=by omega
  have h2:=aas (256^l.length) h1;omega
theorem aaI: ∀(k a n:Nat),zG k (a *256^k+n)=zG k n:=by
 intro k;induction k with
 |zero=>intro a n;rfl
 |succ k ih=>
  intro a n;simp only [zG];have e:a *256^(k+1)+n=a *256 *256^k+n:=by rw [bB,Nat.mul_assoc,AI 256]
  rw [e,ih (a *256) n,aa1 (a *256 *256^k),No _ _ (BY (by decide))];congr 2;omega
theorem aaJ: ∀(l:List Int),qO l->zG l.length (AV 0 l)=l:=by
 intro l;induction l with
 |nil=>intro _;rfl
 |cons c l ih=>intro h;obtain ⟨hc,hl⟩:=h.cons;have dO:=UR l hl;simp only [AV,IN,zG];rw [CP,AS,AT,aaI,ih hl];congr 1;rw [aa1,No _ _ (BY (by decide)),Nat.div_eq_of_lt dO];omega
def Hw (n:Nat):List Int:=(gw n:Int)::zG (gw n) n
theorem EI (n:Nat):qO (Hw n):=by
 intro x hx;rcases aaZ.1 hx with rfl|hx
 ·have:=vo n;omega
 ·exact aaG _ _ x hx
theorem AW (n:Nat):(Hw n).length=gw n+1:=by simp [Hw,EH]
def nu (b:List Int):Option (Nat×List Int):=match b with
 |[]=>none
 |y::r=>if 8<y.toNat\/(0<y.toNat/\r[0]? =some 0)\/r.length<y.toNat then none else some (AV 0 (r.take y.toNat),r.drop y.toNat)
theorem FO {n:Nat}(hn:n<2^64)(r:List Int):nu (Hw n++r)=some (n,r):=by
 have hk:=vo n;obtain ⟨h1,h2⟩:=aaH _ n hn rfl;unfold nu Hw;simp only [IT,aaU];rw [if_neg]
 ·rw [aaX (EH _ _),aaY (EH _ _),WD,AS,AT,Nat.mod_eq_of_lt h1]
 ·rintro (h|⟨h,h3⟩|h)
  ·omega
  ·have h2:=h2 h;obtain ⟨k,TG⟩: ∃k,gw n=k+1:=⟨gw n-1,by omega⟩
   rw [TG] at h1 h2 h3;simp only [zG,IT,List.getElem?_cons_zero,aa4,aaR] at h3 h2;rw [bB] at h1;have hd:n/256^k<256:=by rw [Nat.div_lt_iff_lt_mul (BY (by decide))];rw [AI];exact h1
   have hd2:1<=n/256^k:=by rw [Nat.le_div_iff_mul_le (BY (by decide))];omega
   omega
  ·rw [aaS,EH] at h;omega
theorem qk {b:List Int}(hb:qO b){n:Nat}{r:List Int}(h:nu b=some (n,r)):b=Hw n++r/\n<2^64/\qO r:=by
 unfold nu at h;cases b with
 |nil=>cases h
 |cons y l=>
  simp only at h;obtain ⟨hy,hl⟩:=hb.cons;split at h
  ·cases h
  ·rename_i hc;injection h with h;injection h with h1 h2;have hlen:(l.take y.toNat).length=y.toNat:=by rw [aaW];omega
   have dO:=UR _ (hl.take y.toNat);rw [hlen] at dO;have hk:gw n=y.toNat:=by
    refine ac8 _ _ (by omega) (by rw [<-h1];exact dO) (λh0=> ?_);rw [<-h1];cases l with
    |nil=>simp only [List.length_nil] at hc;omega
    |cons c l=>
     have hc0:c≠0:=λh=>hc (.inr (.inl ⟨h0,by rw [h];rfl⟩));obtain ⟨k,hk⟩: ∃k,y.toNat=k+1:=⟨y.toNat-1,by omega⟩
     rw [hk] at hlen;rw [hk,aaR,List.take_succ_cons,AV,CP];have hll:(l.take k).length=k:=by simpa using hlen
     rw [hll,AS,AT];have:=aas (256^k) (show 1<=c.toNat by have:=hl.cons.1;omega);omega
   refine ⟨?_,?_,?_⟩
   ·unfold Hw;rw [hk,IT,<-h1,<-h2];have:=aaJ _ (hl.take y.toNat);rw [hlen] at this;rw [this,OF];congr 1;omega
   ·rw [<-h1];refine By dO ?_;have:=aar (n:=256) (by decide) (show y.toNat<=8 by omega);simpa using this
   ·rw [<-h2];exact hl.drop _
def zz (n:Int):Nat:=if n<0 then (2 *(-(n+1))+1).toNat else (2 *n).toNat
def uz (u:Nat):Int:=if u%2=1 then-((u/2:Nat):Int)-1 else ((u/2:Nat):Int)
def i64 (n:Int):Prop:= -9223372036854775808<=n/\n<=9223372036854775807
theorem aek {n:Int}(h:i64 n):zz n<2^64:=by unfold zz;unfold i64 at h;split<;>omega
theorem aj2 {n:Int}:uz (zz n)=n:=by unfold zz uz;split<;>split<;>omega
theorem aj3 {u:Nat}:zz (uz u)=u:=by unfold zz uz;split<;>split<;>omega
theorem af9 {u:Nat}(h:u<2^64):i64 (uz u):=by unfold uz i64;split<;>omega
def LV (n:Int):List Int:=Hw (zz n)
def zi (s:List UInt8):List Int:=Hw s.length++uu s
theorem KD (s:List UInt8):qO (uu s):=by intro x hx;unfold uu at hx;obtain ⟨b,_,rfl⟩:=List.mem_map.1 hx;have:=UInt8.toNat_lt b;omega
theorem xa (s:List UInt8):(uu s).length=s.length:=by simp [uu]
theorem aaK (n:Int):qO (LV n):=EI _
theorem Nu (s:List UInt8):qO (zi s):=(EI _).app (KD s)
def FP (l:List Int):List UInt8:=l.map λn=>UInt8.ofNat n.toNat
theorem Nv (s:List UInt8):FP (uu s)=s:=by
 unfold FP uu;rw [aa2];conv=>rhs;rw [<-List.map_id s]
 apply aaC;intro b _;simp
theorem Nw {l:List Int}(h:qO l):uu (FP l)=l:=by
 unfold FP uu;rw [aa2];conv=>rhs;rw [<-List.map_id l]
 apply aaC;intro b hb;have:=h b hb;simp only [Function.comp,aaT,id];omega
theorem qO.all {l:List Int}(h:qO l):l.all isByte=true:=by rw [List.all_eq_true];intro x hx;have:=h x hx;unfold isByte;refine decide_eq_true ?_;rw [aaT];omega
theorem QT {R:Type}{l:List Int}(h:qO l)(K:List UInt8->Option R):Jz l K=K (FP l):=by unfold Jz;rw [if_pos h.all];rfl
def vq (b:List Int):Option (Int×List Int):=match nu b with|some (u,r)=>some (uz u,r)|none=>none
def vr (b:List Int)(most:Nat):Option (List UInt8×List Int):=match nu b with
 |some (n,r)=>if most<n\/r.length<n then none else some (FP (r.take n),r.drop n)
 |none=>none
theorem WE {n:Int}(h:i64 n)(r:List Int):vq (LV n++r)=some (n,r):=by unfold vq LV;rw [FO (aek h)];simp only [aj2]
theorem KE {b:List Int}(hb:qO b){n:Int}{r:List Int}(h:vq b=some (n,r)):b=LV n++r/\i64 n/\qO r:=by
 unfold vq at h;cases ht:nu b with
 |none=>rw [ht] at h;cases h
 |some p=>obtain ⟨u,r'⟩:=p;rw [ht] at h;injection h with h;injection h with h1 h2;subst h1;subst h2;obtain ⟨e,hu,hr⟩:=qk hb ht;exact ⟨by unfold LV;rw [aj3];exact e,af9 hu,hr⟩
theorem Ny {s:List UInt8}{most:Nat}(h:s.length<=most)(hm:most<2^64)(r:List Int):vr (zi s++r) most=some (s,r):=by unfold vr zi;rw [aaV,FO (by omega)];simp only;rw [if_neg (by rw [aaS,xa];omega),aaX (xa s),aaY (xa s),Nv]
theorem CQ {b:List Int}(hb:qO b){most:Nat}{s:List UInt8}{r:List Int}(h:vr b most=some (s,r)):b=zi s++r/\s.length<=most/\qO r:=by
 unfold vr at h;cases ht:nu b with
 |none=>rw [ht] at h;cases h
 |some p=>
  obtain ⟨n,r'⟩:=p;rw [ht] at h;simp only at h;split at h
  ·cases h
  ·rename_i hc;injection h with h;injection h with h1 h2;obtain ⟨e,hu,hr⟩:=qk hb ht;have hl:s.length=n:=by rw [<-h1];unfold FP;rw [List.length_map,aaW];omega
   refine ⟨?_,by omega,by rw [<-h2];exact hr.drop _⟩;unfold zi;rw [hl,e,aaV,<-h1,<-h2,Nw (hr.take _),OF]
end Dn.S
