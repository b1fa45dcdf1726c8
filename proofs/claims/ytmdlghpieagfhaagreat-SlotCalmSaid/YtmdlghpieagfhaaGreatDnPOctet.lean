import Derived.Test.YtmdlghpieagfhaaGreatDnD
import Derived.Test.YtmdlghpieagfhaaGreatDnYT
/- Numbers and texts as bytes. Conditions: none. -/
set_option linter.unusedVariables false
set_option linter.unusedSimpArgs false
open Nat renaming pow_succ→cV,mul_comm→AI,zero_mul→AT,zero_add→BY,lt_of_lt_of_le→IT,pow_pos→No,add_mul_div_right→aaJ,pow_le_pow_right→aaP,mul_le_mul_right→aaU,add_comm→acU,add_mul→acW
open Go.IntKind renaming wrap→sh,signed→acE,bits→acT
open List renaming length_cons→OF,cons_append→aau,take_append_drop→aaK,map_congr_left→abz,length_append→abB,append_assoc→abF,length_take→abG,take_left'→abJ,drop_left'→acv,mem_cons→acN,map_map→acV,map_id→acX
open UInt8 renaming toNat_ofNat'→abC
open Int renaming toNat_natCast→abE
open Option.some renaming injEq→acY
open Go Dn
namespace Dn.S
theorem Pl {σ ρ:Type}{body:σ->Option (Sum σ ρ)}{s:σ}{r:ρ}(h:Loop body s=some r): ∃n,iter body n s=some r:=by
 unfold Loop at h;split at h
 ·rename_i he;obtain ⟨n,hn⟩:=Classical.choose_spec he;injection h with h;exact ⟨n,by rw [<-h];exact hn⟩
 ·cases h
theorem Bc {σ ρ:Type}{body:σ->Option (Sum σ ρ)}{s:σ}{r:ρ}(h:body s=some (.inr r)):Loop body s=some r:=nm (n:=1) (by simp [iter,h])
theorem rb {σ ρ:Type}{body:σ->Option (Sum σ ρ)} {s s':σ}{r:ρ}(h:body s=some (.inl s'))(h2:Loop body s'=some r):Loop body s=some r:=by obtain ⟨n,hn⟩:=Pl h2;exact nm (n:=n+1) (by simp only [iter,h];exact hn)
theorem w8 (x:Int):sh .u8 x=x%256:=by simp [sh,acT,acE]
theorem HH (x:Int):sh .u64 x=x%18446744073709551616:=by simp [sh,acT,acE]
theorem asr (x:Int):sh .i64 x=(x+9223372036854775808)%18446744073709551616-9223372036854775808:=by rw [IntKind.wrap_i64]
def iM (n:Nat):Nat:=if n=0 then 0 else if n<256 then 1 else if n<65536 then 2 else if n<16777216 then 3 else if n<4294967296 then 4 else if n<1099511627776 then 5 else if n<281474976710656 then 6 else if n<72057594037927936 then 7 else 8
def zK:Nat->Nat->List Int
 |0,_=>[]
 |k+1,n=>((n/256^k%256:Nat):Int)::zK k n
def Bd:Nat->List Int->Nat
 |acc,[]=>acc
 |acc,c::l=>Bd (acc *256+c.toNat) l
def tR (l:List Int):Prop:= ∀x∈l,0<=x/\x<256
theorem tR.cons {c:Int}{l:List Int}(h:tR (c::l)):(0<=c/\c<256)/\tR l:=⟨h c (by simp),λx hx=>h x (by simp [hx])⟩
theorem tR.app {l m:List Int}(h:tR l)(h2:tR m):tR (l++m):=λx hx=>by
 rcases List.mem_append.1 hx with hx|hx
 ·exact h x hx
 ·exact h2 x hx
theorem tR.drop {l:List Int}(n:Nat)(h:tR l):tR (l.drop n):=λx hx=>h x (List.mem_of_mem_drop hx)
theorem tR.take {l:List Int}(n:Nat)(h:tR l):tR (l.take n):=λx hx=>h x (List.mem_of_mem_take hx)
theorem EM (k n:Nat):(zK k n).length=k:=by
 induction k with
 |zero=>rfl
 |succ k ih=>simp [zK,ih]
theorem acm (k n:Nat):tR (zK k n):=by
 induction k with
 |zero=>intro x hx;simp [zK] at hx
 |succ k ih=>
  intro x hx;rcases acN.1 hx with rfl|hx
  ·omega
  ·exact ih x hx
theorem BV (n:Nat):iM n<=8:=by
 unfold iM;repeat' split
 all_goals omega
theorem KG (m:Nat):(m=0/\iM m=0)\/(1<=m/\m<256/\iM m=1)\/(256<=m/\m<65536/\iM m=2)\/(65536<=m/\m<16777216/\iM m=3)\/(16777216<=m/\m<4294967296/\iM m=4)\/(4294967296<=m/\m<1099511627776/\iM m=5)\/(1099511627776<=m/\m<281474976710656/\iM m=6)\/(281474976710656<=m/\m<72057594037927936/\iM m=7)\/(72057594037927936<=m/\iM m=8):=by
 by_cases c0:m=0
 ·exact .inl ⟨c0,by unfold iM;rw [if_pos c0]⟩
 by_cases c1:m<256
 ·exact .inr (.inl ⟨by omega,c1,by unfold iM;rw [if_neg c0,if_pos c1]⟩)
 by_cases c2:m<65536
 ·exact .inr (.inr (.inl ⟨by omega,c2,by unfold iM;rw [if_neg c0,if_neg c1,if_pos c2]⟩))
 by_cases c3:m<16777216
 ·exact .inr (.inr (.inr (.inl ⟨by omega,c3,by unfold iM;rw [if_neg c0,if_neg c1,if_neg c2,if_pos c3]⟩)))
 by_cases c4:m<4294967296
 ·exact .inr (.inr (.inr (.inr (.inl ⟨by omega,c4,by unfold iM;rw [if_neg c0,if_neg c1,if_neg c2,if_neg c3,if_pos c4]⟩))))
 by_cases c5:m<1099511627776
 ·exact .inr (.inr (.inr (.inr (.inr (.inl ⟨by omega,c5,by unfold iM;rw [if_neg c0,if_neg c1,if_neg c2,if_neg c3,if_neg c4,if_pos c5]⟩)))))
 by_cases c6:m<281474976710656
 ·exact .inr (.inr (.inr (.inr (.inr (.inr (.inl ⟨by omega,c6,by unfold iM;rw [if_neg c0,if_neg c1,if_neg c2,if_neg c3,if_neg c4,if_neg c5,if_pos c6]⟩))))))
 by_cases c7:m<72057594037927936
 ·exact .inr (.inr (.inr (.inr (.inr (.inr (.inr (.inl ⟨by omega,c7,by unfold iM;rw [if_neg c0,if_neg c1,if_neg c2,if_neg c3,if_neg c4,if_neg c5,if_neg c6,if_pos c7]⟩)))))))
 exact .inr (.inr (.inr (.inr (.inr (.inr (.inr (.inr (⟨by omega,by unfold iM;rw [if_neg c0,if_neg c1,if_neg c2,if_neg c3,if_neg c4,if_neg c5,if_neg c6,if_neg c7]⟩))))))))
theorem pi {n:Nat}(h:0<n)(hb:n<2^64):iM n=iM (n/256)+1:=by rcases KG n with a|a|a|a|a|a|a|a|a<;>rcases KG (n/256) with b|b|b|b|b|b|b|b|b<;>omega
theorem XY {n:Nat}(h:iM n=0):n=0:=by
 unfold iM at h;repeat' split at h
 all_goals first|assumption|omega
theorem acn: ∀(k n:Nat),n<2^64->iM n=k->n<256^k/\(0<k->256^(k-1)<=n):=by
 intro k;induction k with
 |zero=>intro n hn h;have:=XY h;subst this;simp
 |succ k ih=>
  intro n hn h;have h0:0<n:=by refine Nat.pos_of_ne_zero λh0=> ?_;subst h0;simp [iM] at h
  have hs:=pi h0 hn;obtain ⟨h1,h2⟩:=ih (n/256) (by omega) (by omega);refine ⟨?_,λ_=> ?_⟩
  ·rw [cV];omega
  ·by_cases hk:k=0
   ·subst hk;simp;omega
   ·have:=h2 (by omega);rw [show k+1-1=(k-1)+1 by omega,cV];omega
theorem ae9: ∀(k n:Nat),k<=8->n<256^k->(0<k->256^(k-1)<=n)->iM n=k:=by
 intro k;induction k with
 |zero=>intro n _ h _;simp at h;subst h;rfl
 |succ k ih=>
  intro n hk h1 h2;have h2:=h2 (by omega);have hp:0<n:=IT (No (by decide)) h2;have hb:n<2^64:=by refine IT h1 ?_;have:=aaP (n:=256) (by decide) hk;simpa using this
  rw [pi hp hb,ih (n/256) (by omega) (by rw [cV] at h1;omega) (λhk0=> ?_)];rw [show k+1-1=(k-1)+1 by omega,cV] at h2;omega
theorem XZ: ∀(k acc n:Nat),Bd acc (zK k n)=acc *256^k+n%256^k:=by
 intro k;induction k with
 |zero=>intro acc n;simp [zK,Bd,Nat.mod_one]
 |succ k ih=>intro acc n;simp only [zK,Bd,abE];rw [ih,cV,Nat.mod_mul,acW,Nat.mul_assoc,AI 256,AI (n/256^k%256)];omega
theorem Dj: ∀(l:List Int) (acc:Nat),Bd acc l=acc *256^l.length+Bd 0 l:=by
 intro l;induction l with
 |nil=>intro acc;simp [Bd]
 |cons c l ih=>intro acc;simp only [Bd,OF];rw [ih (acc *256+c.toNat),ih (0 *256+c.toNat),cV,AT,BY,acW,Nat.mul_assoc,AI 256];omega
theorem VV: ∀(l:List Int),tR l->Bd 0 l<256^l.length:=by
 intro l;induction l with
 |nil=>intro _;simp [Bd]
 |cons c l ih=>
  intro h;obtain ⟨hc,hl⟩:=h.cons;have ih:=ih hl;simp only [Bd,OF];rw [Dj,AT,BY,cV];have h1:c.toNat<=255:=by omega
  have h2:=aaU (256^l.length) h1;omega
theorem aco: ∀(k a n:Nat),zK k (a *256^k+n)=zK k n:=by
 intro k;induction k with
 |zero=>intro a n;rfl
 |succ k ih=>
  intro a n;simp only [zK];have e:a *256^(k+1)+n=a *256 *256^k+n:=by rw [cV,Nat.mul_assoc,AI 256]
  rw [e,ih (a *256) n,acU (a *256 *256^k),aaJ _ _ (No (by decide))];congr 2;omega
theorem acp: ∀(l:List Int),tR l->zK l.length (Bd 0 l)=l:=by
 intro l;induction l with
 |nil=>intro _;rfl
 |cons c l ih=>intro h;obtain ⟨hc,hl⟩:=h.cons;have cJ:=VV l hl;simp only [Bd,OF,zK];rw [Dj,AT,BY,aco,ih hl];congr 1;rw [acU,aaJ _ _ (No (by decide)),Nat.div_eq_of_lt cJ];omega
def L3 (n:Nat):List Int:=(iM n:Int)::zK (iM n) n
theorem RS (n:Nat):tR (L3 n):=by
 intro x hx;rcases acN.1 hx with rfl|hx
 ·have:=BV n;omega
 ·exact acm _ _ x hx
theorem KH (n:Nat):(L3 n).length=iM n+1:=by simp [L3,EM]
def qn (b:List Int):Option (Nat×List Int):=match b with
 |[]=>none
 |y::r=>if 8<y.toNat\/(0<y.toNat/\r[0]? =some 0)\/r.length<y.toNat then none else some (Bd 0 (r.take y.toNat),r.drop y.toNat)
theorem Nq {n:Nat}(hn:n<2^64)(r:List Int):qn (L3 n++r)=some (n,r):=by
 have hk:=BV n;obtain ⟨h1,h2⟩:=acn _ n hn rfl;unfold qn L3;simp only [aau,abE];rw [if_neg]
 ·rw [abJ (EM _ _),acv (EM _ _),XZ,AT,BY,Nat.mod_eq_of_lt h1]
 ·rintro (h|⟨h,h3⟩|h)
  ·omega
  ·have h2:=h2 h;obtain ⟨k,PH⟩: ∃k,iM n=k+1:=⟨iM n-1,by omega⟩
   rw [PH] at h1 h2 h3;simp only [zK,aau,List.getElem?_cons_zero,acY,Nat.add_sub_cancel] at h3 h2;rw [cV] at h1;have hd:n/256^k<256:=by rw [Nat.div_lt_iff_lt_mul (No (by decide))];rw [AI];exact h1
   have hd2:1<=n/256^k:=by rw [Nat.le_div_iff_mul_le (No (by decide))];omega
   omega
  ·rw [abB,EM] at h;omega
theorem yR {b:List Int}(hb:tR b){n:Nat}{r:List Int}(h:qn b=some (n,r)):b=L3 n++r/\n<2^64/\tR r:=by
 unfold qn at h;cases b with
 |nil=>cases h
 |cons y l=>
  simp only at h;obtain ⟨hy,hl⟩:=hb.cons;split at h
  ·cases h
  ·rename_i hc;injection h with h;injection h with h1 h2;have hlen:(l.take y.toNat).length=y.toNat:=by rw [abG];omega
   have cJ:=VV _ (hl.take y.toNat);rw [hlen] at cJ;have hk:iM n=y.toNat:=by
    refine ae9 _ _ (by omega) (by rw [<-h1];exact cJ) (λh0=> ?_);rw [<-h1];cases l with
    |nil=>simp only [List.length_nil] at hc;omega
    |cons c l=>
     have hc0:c≠0:=λh=>hc (.inr (.inl ⟨h0,by rw [h];rfl⟩));obtain ⟨k,hk⟩: ∃k,y.toNat=k+1:=⟨y.toNat-1,by omega⟩
     rw [hk] at hlen;rw [hk,Nat.add_sub_cancel,List.take_succ_cons,Bd,Dj];have hll:(l.take k).length=k:=by simpa using hlen
     rw [hll,AT,BY];have:=aaU (256^k) (show 1<=c.toNat by have:=hl.cons.1;omega);omega
   refine ⟨?_,?_,?_⟩
   ·unfold L3;rw [hk,aau,<-h1,<-h2];have:=acp _ (hl.take y.toNat);rw [hlen] at this;rw [this,aaK];congr 1;omega
   ·rw [<-h1];refine IT cJ ?_;have:=aaP (n:=256) (by decide) (show y.toNat<=8 by omega);simpa using this
   ·rw [<-h2];exact hl.drop _
def zz (n:Int):Nat:=if n<0 then (2 *(-(n+1))+1).toNat else (2 *n).toNat
def uz (u:Nat):Int:=if u%2=1 then-((u/2:Nat):Int)-1 else ((u/2:Nat):Int)
def i64 (n:Int):Prop:= -9223372036854775808<=n/\n<=9223372036854775807
theorem agP {n:Int}(h:i64 n):zz n<2^64:=by unfold zz;unfold i64 at h;split<;>omega
theorem anN {n:Int}:uz (zz n)=n:=by unfold zz uz;split<;>split<;>omega
theorem anO {u:Nat}:zz (uz u)=u:=by unfold zz uz;split<;>split<;>omega
theorem aji {u:Nat}(h:u<2^64):i64 (uz u):=by unfold uz i64;split<;>omega
def Cc (n:Int):List Int:=L3 (zz n)
def CE (s:List UInt8):List Int:=L3 s.length++D5 s
theorem acq (s:List UInt8):tR (D5 s):=by intro x hx;unfold D5 at hx;obtain ⟨b,_,rfl⟩:=List.mem_map.1 hx;have:=UInt8.toNat_lt b;omega
theorem Be (s:List UInt8):(D5 s).length=s.length:=by simp [D5]
theorem xF (n:Int):tR (Cc n):=RS _
theorem Nr (s:List UInt8):tR (CE s):=(RS _).app (acq s)
def Pm (l:List Int):List UInt8:=l.map λn=>UInt8.ofNat n.toNat
theorem X0 (s:List UInt8):Pm (D5 s)=s:=by
 unfold Pm D5;rw [acV];conv=>rhs;rw [<-acX s]
 apply abz;intro b _;simp
theorem X1 {l:List Int}(h:tR l):D5 (Pm l)=l:=by
 unfold Pm D5;rw [acV];conv=>rhs;rw [<-acX l]
 apply abz;intro b hb;have:=h b hb;simp only [Function.comp,abC,id];omega
theorem tR.all {l:List Int}(h:tR l):l.all isByte=true:=by rw [List.all_eq_true];intro x hx;have:=h x hx;unfold isByte;refine decide_eq_true ?_;rw [abC];omega
theorem acr {R:Type}{l:List Int}(h:tR l)(K:List UInt8->Option R):Q1 l K=K (Pm l):=by unfold Q1;rw [if_pos h.all];rfl
def lE (b:List Int):Option (Int×List Int):=match qn b with|some (u,r)=>some (uz u,r)|none=>none
def vZ (b:List Int)(most:Nat):Option (List UInt8×List Int):=match qn b with
 |some (n,r)=>if most<n\/r.length<n then none else some (Pm (r.take n),r.drop n)
 |none=>none
theorem tT {n:Int}(h:i64 n)(r:List Int):lE (Cc n++r)=some (n,r):=by unfold lE Cc;rw [Nq (agP h)];simp only [anN]
theorem lp {b:List Int}(hb:tR b){n:Int}{r:List Int}(h:lE b=some (n,r)):b=Cc n++r/\i64 n/\tR r:=by
 unfold lE at h;cases ht:qn b with
 |none=>rw [ht] at h;cases h
 |some p=>obtain ⟨u,r'⟩:=p;rw [ht] at h;injection h with h;injection h with h1 h2;subst h1;subst h2;obtain ⟨e,hu,hr⟩:=yR hb ht;exact ⟨by unfold Cc;rw [anO];exact e,aji hu,hr⟩
theorem Ns {s:List UInt8}{most:Nat}(h:s.length<=most)(hm:most<2^64)(r:List Int):vZ (CE s++r) most=some (s,r):=by unfold vZ CE;rw [abF,Nq (by omega)];simp only;rw [if_neg (by rw [abB,Be];omega),abJ (Be s),acv (Be s),X0]
theorem KI {b:List Int}(hb:tR b){most:Nat}{s:List UInt8}{r:List Int}(h:vZ b most=some (s,r)):b=CE s++r/\s.length<=most/\tR r:=by
 unfold vZ at h;cases ht:qn b with
 |none=>rw [ht] at h;cases h
 |some p=>
  obtain ⟨n,r'⟩:=p;rw [ht] at h;simp only at h;split at h
  ·cases h
  ·rename_i hc;injection h with h;injection h with h1 h2;obtain ⟨e,hu,hr⟩:=yR hb ht;have hl:s.length=n:=by rw [<-h1];unfold Pm;rw [List.length_map,abG];omega
   refine ⟨?_,by omega,by rw [<-h2];exact hr.drop _⟩;unfold CE;rw [hl,e,abF,<-h1,<-h2,X1 (hr.take _),aaK]
end Dn.S
