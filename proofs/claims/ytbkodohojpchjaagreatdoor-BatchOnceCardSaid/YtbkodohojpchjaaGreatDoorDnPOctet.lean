import Derived.Test.YtbkodohojpchjaaGreatDoorDnD
import Derived.Test.YtbkodohojpchjaaGreatDoorDnYT
/- Numbers and texts as bytes. Conditions: none. -/
set_option linter.unusedVariables false
set_option linter.unusedSimpArgs false
open Nat renaming pow_succ→bN,mul_comm→AI,zero_mul→AS,zero_add→AT,lt_of_lt_of_le→By,pow_pos→BY,add_mul_div_right→No,pow_le_pow_right→aaG,mul_le_mul_right→aaW,add_sub_cancel→abK,add_comm→abV,add_mul→abX
open Go.IntKind renaming wrap→sh,signed→abS,bits→abU
open List renaming length_cons→IN,cons_append→IT,take_append_drop→OF,map_congr_left→aa6,length_append→abL,append_assoc→abO,length_take→abP,take_left'→abQ,drop_left'→abR,mem_cons→abT,map_map→abW
open UInt8 renaming toNat_ofNat'→abM
open Int renaming toNat_natCast→abN
open Option.some renaming injEq→abY
open Go Dn
namespace Dn.S
theorem OG {σ ρ:Type}{body:σ->Option (Sum σ ρ)}{s:σ}{r:ρ}(h:Loop body s=some r): ∃n,iter body n s=some r:=by
 unfold Loop at h;split at h
 ·rename_i he;obtain ⟨n,hn⟩:=Classical.choose_spec he;injection h with h;exact ⟨n,by rw [<-h];exact hn⟩
 ·cases h
theorem ul {σ ρ:Type}{body:σ->Option (Sum σ ρ)}{s:σ}{r:ρ}(h:body s=some (.inr r)):Loop body s=some r:=kA (n:=1) (by simp [iter,h])
theorem Bd {σ ρ:Type}{body:σ->Option (Sum σ ρ)} {s s':σ}{r:ρ}(h:body s=some (.inl s'))(h2:Loop body s'=some r):Loop body s=some r:=by obtain ⟨n,hn⟩:=OG h2;exact kA (n:=n+1) (by simp only [iter,h];exact hn)
theorem w8 (x:Int):sh .u8 x=x%256:=by simp [sh,abU,abS]
theorem E0 (x:Int):sh .u64 x=x%18446744073709551616:=by simp [sh,abU,abS]
theorem ap7 (x:Int):sh .i64 x=(x+9223372036854775808)%18446744073709551616-9223372036854775808:=by rw [IntKind.wrap_i64]
def gM (n:Nat):Nat:=if n=0 then 0 else if n<256 then 1 else if n<65536 then 2 else if n<16777216 then 3 else if n<4294967296 then 4 else if n<1099511627776 then 5 else if n<281474976710656 then 6 else if n<72057594037927936 then 7 else 8
def zm:Nat->Nat->List Int
 |0,_=>[]
 |k+1,n=>((n/256^k%256:Nat):Int)::zm k n
def AB:Nat->List Int->Nat
 |acc,[]=>acc
 |acc,c::l=>AB (acc *256+c.toNat) l
def rh (l:List Int):Prop:= ∀x∈l,0<=x/\x<256
theorem rh.cons {c:Int}{l:List Int}(h:rh (c::l)):(0<=c/\c<256)/\rh l:=⟨h c (by simp),λx hx=>h x (by simp [hx])⟩
theorem rh.app {l m:List Int}(h:rh l)(h2:rh m):rh (l++m):=λx hx=>by
 rcases List.mem_append.1 hx with hx|hx
 ·exact h x hx
 ·exact h2 x hx
theorem rh.drop {l:List Int}(n:Nat)(h:rh l):rh (l.drop n):=λx hx=>h x (List.mem_of_mem_drop hx)
theorem rh.take {l:List Int}(n:Nat)(h:rh l):rh (l.take n):=λx hx=>h x (List.mem_of_mem_take hx)
theorem DU (k n:Nat):(zm k n).length=k:=by
 induction k with
 |zero=>rfl
 |succ k ih=>simp [zm,ih]
theorem abx (k n:Nat):rh (zm k n):=by
 induction k with
 |zero=>intro x hx;simp [zm] at hx
 |succ k ih=>
  intro x hx;rcases abT.1 hx with rfl|hx
  ·omega
  ·exact ih x hx
theorem vl (n:Nat):gM n<=8:=by
 unfold gM;repeat' split
 all_goals omega
theorem Ka (m:Nat):(m=0/\gM m=0)\/(1<=m/\m<256/\gM m=1)\/(256<=m/\m<65536/\gM m=2)\/(65536<=m/\m<16777216/\gM m=3)\/(16777216<=m/\m<4294967296/\gM m=4)\/(4294967296<=m/\m<1099511627776/\gM m=5)\/(1099511627776<=m/\m<281474976710656/\gM m=6)\/(281474976710656<=m/\m<72057594037927936/\gM m=7)\/(72057594037927936<=m/\gM m=8):=by
 by_cases c0:m=0
 ·exact .inl ⟨c0,by unfold gM;rw [if_pos c0]⟩
 by_cases c1:m<256
 ·exact .inr (.inl ⟨by omega,c1,by unfold gM;rw [if_neg c0,if_pos c1]⟩)
 by_cases c2:m<65536
 ·exact .inr (.inr (.inl ⟨by omega,c2,by unfold gM;rw [if_neg c0,if_neg c1,if_pos c2]⟩))
 by_cases c3:m<16777216
 ·exact .inr (.inr (.inr (.inl ⟨by omega,c3,by unfold gM;rw [if_neg c0,if_neg c1,if_neg c2,if_pos c3]⟩)))
 by_cases c4:m<4294967296
 ·exact .inr (.inr (.inr (.inr (.inl ⟨by omega,c4,by unfold gM;rw [if_neg c0,if_neg c1,if_neg c2,if_neg c3,if_pos c4]⟩))))
 by_cases c5:m<1099511627776
 ·exact .inr (.inr (.inr (.inr (.inr (.inl ⟨by omega,c5,by unfold gM;rw [if_neg c0,if_neg c1,if_neg c2,if_neg c3,if_neg c4,if_pos c5]⟩)))))
 by_cases c6:m<281474976710656
 ·exact .inr (.inr (.inr (.inr (.inr (.inr (.inl ⟨by omega,c6,by unfold gM;rw [if_neg c0,if_neg c1,if_neg c2,if_neg c3,if_neg c4,if_neg c5,if_pos c6]⟩))))))
 by_cases c7:m<72057594037927936
 ·exact .inr (.inr (.inr (.inr (.inr (.inr (.inr (.inl ⟨by omega,c7,by unfold gM;rw [if_neg c0,if_neg c1,if_neg c2,if_neg c3,if_neg c4,if_neg c5,if_neg c6,if_pos c7]⟩)))))))
 exact .inr (.inr (.inr (.inr (.inr (.inr (.inr (.inr (⟨by omega,by unfold gM;rw [if_neg c0,if_neg c1,if_neg c2,if_neg c3,if_neg c4,if_neg c5,if_neg c6,if_neg c7]⟩))))))))
theorem oK {n:Nat}(h:0<n)(hb:n<2^64):gM n=gM (n/256)+1:=by rcases Ka n with a|a|a|a|a|a|a|a|a<;>rcases Ka (n/256) with b|b|b|b|b|b|b|b|b<;>omega
theorem Xe {n:Nat}(h:gM n=0):n=0:=by
 unfold gM at h;repeat' split at h
 all_goals first|assumption|omega
theorem aby: ∀(k n:Nat),n<2^64->gM n=k->n<256^k/\(0<k->256^(k-1)<=n):=by
 intro k;induction k with
 |zero=>intro n hn h;have:=Xe h;subst this;simp
 |succ k ih=>
  intro n hn h;have h0:0<n:=by refine Nat.pos_of_ne_zero λh0=> ?_;subst h0;simp [gM] at h
  have hs:=oK h0 hn;obtain ⟨h1,h2⟩:=ih (n/256) (by omega) (by omega);refine ⟨?_,λ_=> ?_⟩
  ·rw [bN];omega
  ·by_cases hk:k=0
   ·subst hk;simp;omega
   ·have:=h2 (by omega);rw [show k+1-1=(k-1)+1 by omega,bN];omega
theorem aeK: ∀(k n:Nat),k<=8->n<256^k->(0<k->256^(k-1)<=n)->gM n=k:=by
 intro k;induction k with
 |zero=>intro n _ h _;simp at h;subst h;rfl
 |succ k ih=>
  intro n hk h1 h2;have h2:=h2 (by omega);have hp:0<n:=By (BY (by decide)) h2;have hb:n<2^64:=by refine By h1 ?_;have:=aaG (n:=256) (by decide) hk;simpa using this
  rw [oK hp hb,ih (n/256) (by omega) (by rw [bN] at h1;omega) (λhk0=> ?_)];rw [show k+1-1=(k-1)+1 by omega,bN] at h2;omega
theorem Xf: ∀(k acc n:Nat),AB acc (zm k n)=acc *256^k+n%256^k:=by
 intro k;induction k with
 |zero=>intro acc n;simp [zm,AB,Nat.mod_one]
 |succ k ih=>intro acc n;simp only [zm,AB,abN];rw [ih,bN,Nat.mod_mul,abX,Nat.mul_assoc,AI 256,AI (n/256^k%256)];omega
theorem Cz: ∀(l:List Int) (acc:Nat),AB acc l=acc *256^l.length+AB 0 l:=by
 intro l;induction l with
 |nil=>intro acc;simp [AB]
 |cons c l ih=>intro acc;simp only [AB,IN];rw [ih (acc *256+c.toNat),ih (0 *256+c.toNat),bN,AS,AT,abX,Nat.mul_assoc,AI 256];omega
theorem UZ: ∀(l:List Int),rh l->AB 0 l<256^l.length:=by
 intro l;induction l with
 |nil=>intro _;simp [AB]
 |cons c l ih=>
  intro h;obtain ⟨hc,hl⟩:=h.cons;have ih:=ih hl;simp only [AB,IN];rw [Cz,AS,AT,bN];have h1:c.toNat<=255:=by omega
  have h2:=aaW (256^l.length) h1;omega
theorem abz: ∀(k a n:Nat),zm k (a *256^k+n)=zm k n:=by
 intro k;induction k with
 |zero=>intro a n;rfl
 |succ k ih=>
  intro a n;simp only [zm];have e:a *256^(k+1)+n=a *256 *256^k+n:=by rw [bN,Nat.mul_assoc,AI 256]
  rw [e,ih (a *256) n,abV (a *256 *256^k),No _ _ (BY (by decide))];congr 2;omega
theorem abA: ∀(l:List Int),rh l->zm l.length (AB 0 l)=l:=by
 intro l;induction l with
 |nil=>intro _;rfl
 |cons c l ih=>intro h;obtain ⟨hc,hl⟩:=h.cons;have cI:=UZ l hl;simp only [AB,IN,zm];rw [Cz,AS,AT,abz,ih hl];congr 1;rw [abV,No _ _ (BY (by decide)),Nat.div_eq_of_lt cI];omega
def GD (n:Nat):List Int:=(gM n:Int)::zm (gM n) n
theorem DV (n:Nat):rh (GD n):=by
 intro x hx;rcases abT.1 hx with rfl|hx
 ·have:=vl n;omega
 ·exact abx _ _ x hx
theorem AD (n:Nat):(GD n).length=gM n+1:=by simp [GD,DU]
def mV (b:List Int):Option (Nat×List Int):=match b with
 |[]=>none
 |y::r=>if 8<y.toNat\/(0<y.toNat/\r[0]? =some 0)\/r.length<y.toNat then none else some (AB 0 (r.take y.toNat),r.drop y.toNat)
theorem E3 {n:Nat}(hn:n<2^64)(r:List Int):mV (GD n++r)=some (n,r):=by
 have hk:=vl n;obtain ⟨h1,h2⟩:=aby _ n hn rfl;unfold mV GD;simp only [IT,abN];rw [if_neg]
 ·rw [abQ (DU _ _),abR (DU _ _),Xf,AS,AT,Nat.mod_eq_of_lt h1]
 ·rintro (h|⟨h,h3⟩|h)
  ·omega
  ·have h2:=h2 h;obtain ⟨k,ON⟩: ∃k,gM n=k+1:=⟨gM n-1,by omega⟩
   rw [ON] at h1 h2 h3;simp only [zm,IT,List.getElem?_cons_zero,abY,abK] at h3 h2;rw [bN] at h1;have hd:n/256^k<256:=by rw [Nat.div_lt_iff_lt_mul (BY (by decide))];rw [AI];exact h1
   have hd2:1<=n/256^k:=by rw [Nat.le_div_iff_mul_le (BY (by decide))];omega
   omega
  ·rw [abL,DU] at h;omega
theorem um {b:List Int}(hb:rh b){n:Nat}{r:List Int}(h:mV b=some (n,r)):b=GD n++r/\n<2^64/\rh r:=by
 unfold mV at h;cases b with
 |nil=>cases h
 |cons y l=>
  simp only at h;obtain ⟨hy,hl⟩:=hb.cons;split at h
  ·cases h
  ·rename_i hc;injection h with h;injection h with h1 h2;have hlen:(l.take y.toNat).length=y.toNat:=by rw [abP];omega
   have cI:=UZ _ (hl.take y.toNat);rw [hlen] at cI;have hk:gM n=y.toNat:=by
    refine aeK _ _ (by omega) (by rw [<-h1];exact cI) (λh0=> ?_);rw [<-h1];cases l with
    |nil=>simp only [List.length_nil] at hc;omega
    |cons c l=>
     have hc0:c≠0:=λh=>hc (.inr (.inl ⟨h0,by rw [h];rfl⟩));obtain ⟨k,hk⟩: ∃k,y.toNat=k+1:=⟨y.toNat-1,by omega⟩
     rw [hk] at hlen;rw [hk,abK,List.take_succ_cons,AB,Cz];have hll:(l.take k).length=k:=by simpa using hlen
     rw [hll,AS,AT];have:=aaW (256^k) (show 1<=c.toNat by have:=hl.cons.1;omega);omega
   refine ⟨?_,?_,?_⟩
   ·unfold GD;rw [hk,IT,<-h1,<-h2];have:=abA _ (hl.take y.toNat);rw [hlen] at this;rw [this,OF];congr 1;omega
   ·rw [<-h1];refine By cI ?_;have:=aaG (n:=256) (by decide) (show y.toNat<=8 by omega);simpa using this
   ·rw [<-h2];exact hl.drop _
def zz (n:Int):Nat:=if n<0 then (2 *(-(n+1))+1).toNat else (2 *n).toNat
def uz (u:Nat):Int:=if u%2=1 then-((u/2:Nat):Int)-1 else ((u/2:Nat):Int)
def i64 (n:Int):Prop:= -9223372036854775808<=n/\n<=9223372036854775807
theorem afV {n:Int}(h:i64 n):zz n<2^64:=by unfold zz;unfold i64 at h;split<;>omega
theorem amk {n:Int}:uz (zz n)=n:=by unfold zz uz;split<;>split<;>omega
theorem aml {u:Nat}:zz (uz u)=u:=by unfold zz uz;split<;>split<;>omega
theorem ah0 {u:Nat}(h:u<2^64):i64 (uz u):=by unfold uz i64;split<;>omega
def Lf (n:Int):List Int:=GD (zz n)
def yR (s:List UInt8):List Int:=GD s.length++wC s
theorem QW (s:List UInt8):rh (wC s):=by intro x hx;unfold wC at hx;obtain ⟨b,_,rfl⟩:=List.mem_map.1 hx;have:=UInt8.toNat_lt b;omega
theorem w9 (s:List UInt8):(wC s).length=s.length:=by simp [wC]
theorem abB (n:Int):rh (Lf n):=DV _
theorem MU (s:List UInt8):rh (yR s):=(DV _).app (QW s)
def E4 (l:List Int):List UInt8:=l.map λn=>UInt8.ofNat n.toNat
theorem Xg (s:List UInt8):E4 (wC s)=s:=by
 unfold E4 wC;rw [abW];conv=>rhs;rw [<-List.map_id s]
 apply aa6;intro b _;simp
theorem MW {l:List Int}(h:rh l):wC (E4 l)=l:=by
 unfold E4 wC;rw [abW];conv=>rhs;rw [<-List.map_id l]
 apply aa6;intro b hb;have:=h b hb;simp only [Function.comp,abM,id];omega
theorem rh.all {l:List Int}(h:rh l):l.all isByte=true:=by rw [List.all_eq_true];intro x hx;have:=h x hx;unfold isByte;refine decide_eq_true ?_;rw [abM];omega
theorem QX {R:Type}{l:List Int}(h:rh l)(K:List UInt8->Option R):N7 l K=K (E4 l):=by unfold N7;rw [if_pos h.all];rfl
def vo (b:List Int):Option (Int×List Int):=match mV b with|some (u,r)=>some (uz u,r)|none=>none
def vq (b:List Int)(most:Nat):Option (List UInt8×List Int):=match mV b with
 |some (n,r)=>if most<n\/r.length<n then none else some (E4 (r.take n),r.drop n)
 |none=>none
theorem Xh {n:Int}(h:i64 n)(r:List Int):vo (Lf n++r)=some (n,r):=by unfold vo Lf;rw [E3 (afV h)];simp only [amk]
theorem Kb {b:List Int}(hb:rh b){n:Int}{r:List Int}(h:vo b=some (n,r)):b=Lf n++r/\i64 n/\rh r:=by
 unfold vo at h;cases ht:mV b with
 |none=>rw [ht] at h;cases h
 |some p=>obtain ⟨u,r'⟩:=p;rw [ht] at h;injection h with h;injection h with h1 h2;subst h1;subst h2;obtain ⟨e,hu,hr⟩:=um hb ht;exact ⟨by unfold Lf;rw [aml];exact e,ah0 hu,hr⟩
theorem MX {s:List UInt8}{most:Nat}(h:s.length<=most)(hm:most<2^64)(r:List Int):vq (yR s++r) most=some (s,r):=by unfold vq yR;rw [abO,E3 (by omega)];simp only;rw [if_neg (by rw [abL,w9];omega),abQ (w9 s),abR (w9 s),Xg]
theorem CA {b:List Int}(hb:rh b){most:Nat}{s:List UInt8}{r:List Int}(h:vq b most=some (s,r)):b=yR s++r/\s.length<=most/\rh r:=by
 unfold vq at h;cases ht:mV b with
 |none=>rw [ht] at h;cases h
 |some p=>
  obtain ⟨n,r'⟩:=p;rw [ht] at h;simp only at h;split at h
  ·cases h
  ·rename_i hc;injection h with h;injection h with h1 h2;obtain ⟨e,hu,hr⟩:=um hb ht;have hl:s.length=n:=by rw [<-h1];unfold E4;rw [List.length_map,abP];omega
   refine ⟨?_,by omega,by rw [<-h2];exact hr.drop _⟩;unfold yR;rw [hl,e,abO,<-h1,<-h2,MW (hr.take _),OF]
end Dn.S
