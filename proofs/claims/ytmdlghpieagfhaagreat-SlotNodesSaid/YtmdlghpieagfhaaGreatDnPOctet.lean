import Derived.Test.YtmdlghpieagfhaaGreatDnC
import Derived.Test.YtmdlghpieagfhaaGreatDnYT
/-
  Numbers and texts as bytes. Conditions: none.
-/
set_option linter.unusedVariables false
set_option linter.unusedSimpArgs false
open Nat renaming pow_succ→fj,mul_comm→AI,zero_mul→AT,zero_add→BY,lt_of_lt_of_le→IN,pow_pos→IS,add_mul_div_right→OF,pow_le_pow_right→aay,mul_le_mul_right→aaH,add_comm→aaT,add_mul→aaV
open Go.IntKind renaming wrap→sh,signed→aaQ,bits→aaS
open List renaming length_cons→IT,cons_append→No,take_append_drop→aav,map_congr_left→aaI,length_append→aaJ,append_assoc→aaM,length_take→aaN,take_left'→aaO,drop_left'→aaP,mem_cons→aaR,map_map→aaU,map_id→aaW
open UInt8 renaming toNat_ofNat'→aaK
open Int renaming toNat_natCast→aaL
open Option.some renaming injEq→aaX
open Go Dn
namespace Dn.S
theorem RW {σ ρ:Type}{body:σ->Option (Sum σ ρ)}{s:σ}{r:ρ}(h:Loop body s=some r): ∃n,iter body n s=some r:=by
 unfold Loop at h;split at h
 ·rename_i he;obtain ⟨n,hn⟩:=Classical.choose_spec he;injection h with h;exact ⟨n,by rw [<-h];exact hn⟩
 ·cases h
theorem nk {σ ρ:Type}{body:σ->Option (Sum σ ρ)}{s:σ}{r:ρ}(h:body s=some (.inr r)):Loop body s=some r:=lg (n:=1) (by simp [iter,h])
theorem jq {σ ρ:Type}{body:σ->Option (Sum σ ρ)} {s s':σ}{r:ρ}(h:body s=some (.inl s'))(h2:Loop body s'=some r):Loop body s=some r:=by obtain ⟨n,hn⟩:=RW h2;exact lg (n:=n+1) (by simp only [iter,h];exact hn)
theorem w8 (x:Int):sh .u8 x=x%256:=by simp [sh,aaS,aaQ]
theorem ud (x:Int):sh .u64 x=x%18446744073709551616:=by simp [sh,aaS,aaQ]
theorem ayT (x:Int):sh .i64 x=(x+9223372036854775808)%18446744073709551616-9223372036854775808:=by rw [IntKind.wrap_i64]
def fY (n:Nat):Nat:=if n=0 then 0 else if n<256 then 1 else if n<65536 then 2 else if n<16777216 then 3 else if n<4294967296 then 4 else if n<1099511627776 then 5 else if n<281474976710656 then 6 else if n<72057594037927936 then 7 else 8
def xG:Nat->Nat->List Int
 |0,_=>[]
 |k+1,n=>((n/256^k%256:Nat):Int)::xG k n
def zY:Nat->List Int->Nat
 |acc,[]=>acc
 |acc,c::l=>zY (acc *256+c.toNat) l
def rl (l:List Int):Prop:= ∀x∈l,0<=x/\x<256
theorem rl.cons {c:Int}{l:List Int}(h:rl (c::l)):(0<=c/\c<256)/\rl l:=⟨h c (by simp),λx hx=>h x (by simp [hx])⟩
theorem rl.app {l m:List Int}(h:rl l)(h2:rl m):rl (l++m):=λx hx=>by
 rcases List.mem_append.1 hx with hx|hx
 ·exact h x hx
 ·exact h2 x hx
theorem rl.drop {l:List Int}(n:Nat)(h:rl l):rl (l.drop n):=λx hx=>h x (List.mem_of_mem_drop hx)
theorem rl.take {l:List Int}(n:Nat)(h:rl l):rl (l.take n):=λx hx=>h x (List.mem_of_mem_take hx)
theorem GH (k n:Nat):(xG k n).length=k:=by
 induction k with
 |zero=>rfl
 |succ k ih=>simp [xG,ih]
theorem afc (k n:Nat):rl (xG k n):=by
 induction k with
 |zero=>intro x hx;simp [xG] at hx
 |succ k ih=>
  intro x hx;rcases aaR.1 hx with rfl|hx
  ·omega
  ·exact ih x hx
theorem su (n:Nat):fY n<=8:=by
 unfold fY;repeat' split
 all_goals omega
theorem MG (m:Nat):(m=0/\fY m=0)\/(1<=m/\m<256/\fY m=1)\/(256<=m/\m<65536/\fY m=2)\/(65536<=m/\m<16777216/\fY m=3)\/(16777216<=m/\m<4294967296/\fY m=4)\/(4294967296<=m/\m<1099511627776/\fY m=5)\/(1099511627776<=m/\m<281474976710656/\fY m=6)\/(281474976710656<=m/\m<72057594037927936/\fY m=7)\/(72057594037927936<=m/\fY m=8):=by
 by_cases c0:m=0
 ·exact .inl ⟨c0,by unfold fY;rw [if_pos c0]⟩
 by_cases c1:m<256
 ·exact .inr (.inl ⟨by omega,c1,by unfold fY;rw [if_neg c0,if_pos c1]⟩)
 by_cases c2:m<65536
 ·exact .inr (.inr (.inl ⟨by omega,c2,by unfold fY;rw [if_neg c0,if_neg c1,if_pos c2]⟩))
 by_cases c3:m<16777216
 ·exact .inr (.inr (.inr (.inl ⟨by omega,c3,by unfold fY;rw [if_neg c0,if_neg c1,if_neg c2,if_pos c3]⟩)))
 by_cases c4:m<4294967296
 ·exact .inr (.inr (.inr (.inr (.inl ⟨by omega,c4,by unfold fY;rw [if_neg c0,if_neg c1,if_neg c2,if_neg c3,if_pos c4]⟩))))
 by_cases c5:m<1099511627776
 ·exact .inr (.inr (.inr (.inr (.inr (.inl ⟨by omega,c5,by unfold fY;rw [if_neg c0,if_neg c1,if_neg c2,if_neg c3,if_neg c4,if_pos c5]⟩)))))
 by_cases c6:m<281474976710656
 ·exact .inr (.inr (.inr (.inr (.inr (.inr (.inl ⟨by omega,c6,by unfold fY;rw [if_neg c0,if_neg c1,if_neg c2,if_neg c3,if_neg c4,if_neg c5,if_pos c6]⟩))))))
 by_cases c7:m<72057594037927936
 ·exact .inr (.inr (.inr (.inr (.inr (.inr (.inr (.inl ⟨by omega,c7,by unfold fY;rw [if_neg c0,if_neg c1,if_neg c2,if_neg c3,if_neg c4,if_neg c5,if_neg c6,if_pos c7]⟩)))))))
 exact .inr (.inr (.inr (.inr (.inr (.inr (.inr (.inr (⟨by omega,by unfold fY;rw [if_neg c0,if_neg c1,if_neg c2,if_neg c3,if_neg c4,if_neg c5,if_neg c6,if_neg c7]⟩))))))))
theorem nJ {n:Nat}(h:0<n)(hb:n<2^64):fY n=fY (n/256)+1:=by rcases MG n with a|a|a|a|a|a|a|a|a<;>rcases MG (n/256) with b|b|b|b|b|b|b|b|b<;>omega
theorem PX {n:Nat}(h:fY n=0):n=0:=by
 unfold fY at h;repeat' split at h
 all_goals first|assumption|omega
theorem afd: ∀(k n:Nat),n<2^64->fY n=k->n<256^k/\(0<k->256^(k-1)<=n):=by
 intro k;induction k with
 |zero=>intro n hn h;have:=PX h;subst this;simp
 |succ k ih=>
  intro n hn h;have h0:0<n:=by refine Nat.pos_of_ne_zero λh0=> ?_;subst h0;simp [fY] at h
  have hs:=nJ h0 hn;obtain ⟨h1,h2⟩:=ih (n/256) (by omega) (by omega);refine ⟨?_,λ_=> ?_⟩
  ·rw [fj];omega
  ·by_cases hk:k=0
   ·subst hk;simp;omega
   ·have:=h2 (by omega);rw [show k+1-1=(k-1)+1 by omega,fj];omega
theorem ahO: ∀(k n:Nat),k<=8->n<256^k->(0<k->256^(k-1)<=n)->fY n=k:=by
 intro k;induction k with
 |zero=>intro n _ h _;simp at h;subst h;rfl
 |succ k ih=>
  intro n hk h1 h2;have h2:=h2 (by omega);have hp:0<n:=IN (IS (by decide)) h2;have hb:n<2^64:=by refine IN h1 ?_;have:=aay (n:=256) (by decide) hk;simpa using this
  rw [nJ hp hb,ih (n/256) (by omega) (by rw [fj] at h1;omega) (λhk0=> ?_)];rw [show k+1-1=(k-1)+1 by omega,fj] at h2;omega
theorem aao: ∀(k acc n:Nat),zY acc (xG k n)=acc *256^k+n%256^k:=by
 intro k;induction k with
 |zero=>intro acc n;simp [xG,zY,Nat.mod_one]
 |succ k ih=>intro acc n;simp only [xG,zY,aaL];rw [ih,fj,Nat.mod_mul,aaV,Nat.mul_assoc,AI 256,AI (n/256^k%256)];omega
theorem Ew: ∀(l:List Int) (acc:Nat),zY acc l=acc *256^l.length+zY 0 l:=by
 intro l;induction l with
 |nil=>intro acc;simp [zY]
 |cons c l ih=>intro acc;simp only [zY,IT];rw [ih (acc *256+c.toNat),ih (0 *256+c.toNat),fj,AT,BY,aaV,Nat.mul_assoc,AI 256];omega
theorem YS: ∀(l:List Int),rl l->zY 0 l<256^l.length:=by
 intro l;induction l with
 |nil=>intro _;simp [zY]
 |cons c l ih=>
  intro h;obtain ⟨hc,hl⟩:=h.cons;have ih:=ih hl;simp only [zY,IT];rw [Ew,AT,BY,fj];have h1:c.toNat<=255:=by omega
  have h2:=aaH (256^l.length) h1;omega
theorem afe: ∀(k a n:Nat),xG k (a *256^k+n)=xG k n:=by
 intro k;induction k with
 |zero=>intro a n;rfl
 |succ k ih=>
  intro a n;simp only [xG];have e:a *256^(k+1)+n=a *256 *256^k+n:=by rw [fj,Nat.mul_assoc,AI 256]
  rw [e,ih (a *256) n,aaT (a *256 *256^k),OF _ _ (IS (by decide))];congr 2;omega
theorem aff: ∀(l:List Int),rl l->xG l.length (zY 0 l)=l:=by
 intro l;induction l with
 |nil=>intro _;rfl
 |cons c l ih=>intro h;obtain ⟨hc,hl⟩:=h.cons;have eE:=YS l hl;simp only [zY,IT,xG];rw [Ew,AT,BY,afe,ih hl];congr 1;rw [aaT,OF _ _ (IS (by decide)),Nat.div_eq_of_lt eE];omega
def MH (n:Nat):List Int:=(fY n:Int)::xG (fY n) n
theorem UZ (n:Nat):rl (MH n):=by
 intro x hx;rcases aaR.1 hx with rfl|hx
 ·have:=su n;omega
 ·exact afc _ _ x hx
theorem GI (n:Nat):(MH n).length=fY n+1:=by simp [MH,GH]
def nm (b:List Int):Option (Nat×List Int):=match b with
 |[]=>none
 |y::r=>if 8<y.toNat\/(0<y.toNat/\r[0]? =some 0)\/r.length<y.toNat then none else some (zY 0 (r.take y.toNat),r.drop y.toNat)
theorem PY {n:Nat}(hn:n<2^64)(r:List Int):nm (MH n++r)=some (n,r):=by
 have hk:=su n;obtain ⟨h1,h2⟩:=afd _ n hn rfl;unfold nm MH;simp only [No,aaL];rw [if_neg]
 ·rw [aaO (GH _ _),aaP (GH _ _),aao,AT,BY,Nat.mod_eq_of_lt h1]
 ·rintro (h|⟨h,h3⟩|h)
  ·omega
  ·have h2:=h2 h;obtain ⟨k,OC⟩: ∃k,fY n=k+1:=⟨fY n-1,by omega⟩
   rw [OC] at h1 h2 h3;simp only [xG,No,List.getElem?_cons_zero,aaX,Nat.add_sub_cancel] at h3 h2;rw [fj] at h1;have hd:n/256^k<256:=by rw [Nat.div_lt_iff_lt_mul (IS (by decide))];rw [AI];exact h1
   have hd2:1<=n/256^k:=by rw [Nat.le_div_iff_mul_le (IS (by decide))];omega
   omega
  ·rw [aaJ,GH] at h;omega
theorem rS {b:List Int}(hb:rl b){n:Nat}{r:List Int}(h:nm b=some (n,r)):b=MH n++r/\n<2^64/\rl r:=by
 unfold nm at h;cases b with
 |nil=>cases h
 |cons y l=>
  simp only at h;obtain ⟨hy,hl⟩:=hb.cons;split at h
  ·cases h
  ·rename_i hc;injection h with h;injection h with h1 h2;have hlen:(l.take y.toNat).length=y.toNat:=by rw [aaN];omega
   have eE:=YS _ (hl.take y.toNat);rw [hlen] at eE;have hk:fY n=y.toNat:=by
    refine ahO _ _ (by omega) (by rw [<-h1];exact eE) (λh0=> ?_);rw [<-h1];cases l with
    |nil=>simp only [List.length_nil] at hc;omega
    |cons c l=>
     have hc0:c≠0:=λh=>hc (.inr (.inl ⟨h0,by rw [h];rfl⟩));obtain ⟨k,hk⟩: ∃k,y.toNat=k+1:=⟨y.toNat-1,by omega⟩
     rw [hk] at hlen;rw [hk,Nat.add_sub_cancel,List.take_succ_cons,zY,Ew];have hll:(l.take k).length=k:=by simpa using hlen
     rw [hll,AT,BY];have:=aaH (256^k) (show 1<=c.toNat by have:=hl.cons.1;omega);omega
   refine ⟨?_,?_,?_⟩
   ·unfold MH;rw [hk,No,<-h1,<-h2];have:=aff _ (hl.take y.toNat);rw [hlen] at this;rw [this,aav];congr 1;omega
   ·rw [<-h1];refine IN eE ?_;have:=aay (n:=256) (by decide) (show y.toNat<=8 by omega);simpa using this
   ·rw [<-h2];exact hl.drop _
def zz (n:Int):Nat:=if n<0 then (2 *(-(n+1))+1).toNat else (2 *n).toNat
def uz (u:Nat):Int:=if u%2=1 then-((u/2:Nat):Int)-1 else ((u/2:Nat):Int)
def i64 (n:Int):Prop:= -9223372036854775808<=n/\n<=9223372036854775807
theorem afg {n:Int}(h:i64 n):zz n<2^64:=by unfold zz;unfold i64 at h;split<;>omega
theorem asW {n:Int}:uz (zz n)=n:=by unfold zz uz;split<;>split<;>omega
theorem asX {u:Nat}:zz (uz u)=u:=by unfold zz uz;split<;>split<;>omega
theorem ami {u:Nat}(h:u<2^64):i64 (uz u):=by unfold uz i64;split<;>omega
def AD (n:Int):List Int:=MH (zz n)
def BM (s:List UInt8):List Int:=MH s.length++A5 s
theorem afh (s:List UInt8):rl (A5 s):=by intro x hx;unfold A5 at hx;obtain ⟨b,_,rfl⟩:=List.mem_map.1 hx;have:=UInt8.toNat_lt b;omega
theorem yK (s:List UInt8):(A5 s).length=s.length:=by simp [A5]
theorem yL (n:Int):rl (AD n):=UZ _
theorem PZ (s:List UInt8):rl (BM s):=(UZ _).app (afh s)
def RX (l:List Int):List UInt8:=l.map λn=>UInt8.ofNat n.toNat
theorem aap (s:List UInt8):RX (A5 s)=s:=by
 unfold RX A5;rw [aaU];conv=>rhs;rw [<-aaW s]
 apply aaI;intro b _;simp
theorem aaq {l:List Int}(h:rl l):A5 (RX l)=l:=by
 unfold RX A5;rw [aaU];conv=>rhs;rw [<-aaW l]
 apply aaI;intro b hb;have:=h b hb;simp only [Function.comp,aaK,id];omega
theorem rl.all {l:List Int}(h:rl l):l.all isByte=true:=by rw [List.all_eq_true];intro x hx;have:=h x hx;unfold isByte;refine decide_eq_true ?_;rw [aaK];omega
theorem afi {R:Type}{l:List Int}(h:rl l)(K:List UInt8->Option R):Q5 l K=K (RX l):=by unfold Q5;rw [if_pos h.all];rfl
def gf (b:List Int):Option (Int×List Int):=match nm b with|some (u,r)=>some (uz u,r)|none=>none
def vG (b:List Int)(most:Nat):Option (List UInt8×List Int):=match nm b with
 |some (n,r)=>if most<n\/r.length<n then none else some (RX (r.take n),r.drop n)
 |none=>none
theorem uD {n:Int}(h:i64 n)(r:List Int):gf (AD n++r)=some (n,r):=by unfold gf AD;rw [PY (afg h)];simp only [asW]
theorem iB {b:List Int}(hb:rl b){n:Int}{r:List Int}(h:gf b=some (n,r)):b=AD n++r/\i64 n/\rl r:=by
 unfold gf at h;cases ht:nm b with
 |none=>rw [ht] at h;cases h
 |some p=>obtain ⟨u,r'⟩:=p;rw [ht] at h;injection h with h;injection h with h1 h2;subst h1;subst h2;obtain ⟨e,hu,hr⟩:=rS hb ht;exact ⟨by unfold AD;rw [asX];exact e,ami hu,hr⟩
theorem P0 {s:List UInt8}{most:Nat}(h:s.length<=most)(hm:most<2^64)(r:List Int):vG (BM s++r) most=some (s,r):=by unfold vG BM;rw [aaM,PY (by omega)];simp only;rw [if_neg (by rw [aaJ,yK];omega),aaO (yK s),aaP (yK s),aap]
theorem Ex {b:List Int}(hb:rl b){most:Nat}{s:List UInt8}{r:List Int}(h:vG b most=some (s,r)):b=BM s++r/\s.length<=most/\rl r:=by
 unfold vG at h;cases ht:nm b with
 |none=>rw [ht] at h;cases h
 |some p=>
  obtain ⟨n,r'⟩:=p;rw [ht] at h;simp only at h;split at h
  ·cases h
  ·rename_i hc;injection h with h;injection h with h1 h2;obtain ⟨e,hu,hr⟩:=rS hb ht;have hl:s.length=n:=by rw [<-h1];unfold RX;rw [List.length_map,aaN];omega
   refine ⟨?_,by omega,by rw [<-h2];exact hr.drop _⟩;unfold BM;rw [hl,e,aaM,<-h1,<-h2,aaq (hr.take _),aav]
end Dn.S
