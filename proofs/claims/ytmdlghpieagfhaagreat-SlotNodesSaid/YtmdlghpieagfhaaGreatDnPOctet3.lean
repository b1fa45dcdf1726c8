import Derived.Test.YtmdlghpieagfhaaGreatDnPOctet2
/-
  Numbers and texts as bytes: the document's answer; what is taken. Conditions: none.
-/
set_option linter.unusedVariables false
set_option linter.unusedSimpArgs false
open List renaming length_cons→fj,getElem_cons_zero→AT,length_singleton→BY,drop→IN,take→IS,length_append→No,drop_eq_getElem_cons→aaH,append_assoc→aaI,getElem?_cons_zero→aaJ,length_take→aaK,drop_of_length_le→aaL,getElem_cons_succ→aaM,getElem_mem→aaT
open Go.IntKind renaming wrap→sh,bits→aaV
open Int renaming toNat→AI,tdiv_eq_ediv_of_nonneg→IT,tmod_eq_emod_of_nonneg→OF,natCast_nonneg→aav,natCast_zero→aaU
open Bool renaming false_eq_true→aay,not_false→aaO,not_true→aaP
open Nat renaming pow_le_pow_right→aaN,lt_of_lt_of_le→aaQ,pow_succ→aaR
open Option.some renaming injEq→aaS
open Go Dn
namespace Dn.S
theorem WZ {n:Nat}(h:n<2^64):Bf (n:Int)=some ((1+fY n:Nat):Int):=by unfold Bf;have hk:=su n;have:=afk (fY n) n 1 h rfl (by omega);rw [show ((1:Nat):Int)=1 from rfl] at this;rw [this,ar]
theorem afl {l:List Int}{i:Nat}(hi:i<=7): ∀(d j n:Nat),j+d=i->n<2^64->Loop (yp (l,(i:Int))) ((n:Int),(j:Int))=some ((n/256^d:Nat):Int):=by
 intro d;induction d with
 |zero=>intro j n hj hn;refine nk ?_;unfold yp;simp only;rw [if_neg (by omega)];simp
 |succ d ih=>
  intro j n hj hn;refine jq (s':=(((n/256:Nat):Int),((j+1:Nat):Int))) ?_ ?_
  ·unfold yp;simp only;rw [if_pos (by omega),if_pos (by decide),IT (by omega),ud,wrap64 (by omega) (by omega)];congr 3;omega
  ·rw [ih (j+1) (n/256) (by omega) (by omega),aaR,Nat.mul_comm,Nat.div_div_eq_div_mul]
theorem afm {n:Nat}(hn:n<2^64): ∀(j:Nat) (l:List Int),j<=8->l.length<=2^45+(8-j)->Loop (yq (n:Int)) (l,(j:Int)-1)=some (l++xG j n):=by
 intro j;induction j with
 |zero=>intro l _ _;refine nk ?_;unfold yq;simp only;rw [if_neg (by omega)];simp [xG]
 |succ j ih=>
  intro l hj hl;have hh:=ih (l++[((n/256^j%256:Nat):Int)]) (by omega) (by rw [No,BY];omega);have e0:(((j+1:Nat):Int)-1)=(j:Int):=by omega
  rw [e0];refine jq (s':=(l++[((n/256^j%256:Nat):Int)],(j:Int)-1)) ?_ ?_
  ·unfold yq;simp only;have e1:=afl (l:=l) (i:=j) (by omega) j 0 n (by omega) hn;rw [show ((0:Nat):Int)=0 from rfl] at e1;rw [if_pos (by omega),e1,ar,if_pos (by decide),if_pos (by rw [BY];omega),wrap64 (by omega) (by omega),w8,OF (aav _)];generalize n/256^j=x;rw [show (x:Int)%256%256=((x%256:Nat):Int) by omega]
  ·rw [hh,xG,aaI];rfl
theorem HO {b:List Int}(hb:b.length<=2^44){n:Nat}(h:n<2^64):zt b (n:Int)=some (b++MH n):=by unfold zt;have hk:=su n;rw [if_pos (by simp only [List.length_nil];omega),WZ h,ar,List.nil_append,show sh .i64 (((1+fY n:Nat):Int)-1)=(fY n:Int) by rw [wrap64 (by omega) (by omega)];omega,show sh .u8 (fY n:Int)=(fY n:Int) by rw [w8];omega,if_pos (by rw [BY];omega),wrap64 (by omega) (by omega),afm h (fY n) _ hk (by rw [No,BY];omega),ar,aaI];rfl
theorem uG {b:List Int}(hb:b.length<=2^44){n:Int}(h:i64 n):r8 b n=some (b++AD n):=by
 unfold r8 i64 at *;have hz:=afg (n:=n) h;unfold AD;by_cases c:n<0
 ·rw [if_pos c,wrap64 (x:=n+1) (by omega) (by omega),wrap64 (x:=0-(n+1)) (by omega) (by omega),ud,ud,ud,show (2 *((0-(n+1))%18446744073709551616)%18446744073709551616+1)%18446744073709551616=((zz n:Nat):Int) by unfold zz;rw [if_pos c];omega,HO hb hz,ar]
 ·rw [if_neg c,ud,ud,show 2 *(n%18446744073709551616)%18446744073709551616=((zz n:Nat):Int) by unfold zz;rw [if_neg c];omega,HO hb hz,ar]
theorem MJ {b:List Int}(hb:b.length<=2^44){s:List UInt8}(h:s.length<=2^44):yr b s=some (b++BM s):=by unfold yr;have:=su s.length;rw [ud,show ((s.length:Int)%18446744073709551616)=((s.length:Nat):Int) by omega,HO hb (by omega),ar,if_pos (by rw [No,GI,yK];omega),aaI];rfl
def GK (b:List Int):Int:=match b with
 |[]=>2
 |y::r=>if 8<y.toNat\/(0<y.toNat/\r[0]? =some 0) then 3 else 2
theorem ir (b:List Int):GK b≠0:=by
 unfold GK;cases b with
 |nil=>decide
 |cons y r=>simp only;split<;>decide
def tkB (b:List Int):Int×List Int×Int:=match nm b with
 |some (n,r)=>((n:Int),r,0)
 |none=>(0,[],GK b)
theorem afn {b:List Int}{y:Int}{m:List Int}(e:IN (AI 0) (IS (AI (sh .i64 y)) (IN (AI 1) (IS (AI (b.length:Int)) b)))=m)(hm:rl m)(h8:m.length<=8): ∀(d j acc:Nat),j+d=m.length->acc<256^j->Loop (ql b y) ((acc:Int),(j:Int))=some (zY acc (m.drop j):Int):=by
 intro d;induction d with
 |zero=>intro j acc hj _;refine nk ?_;unfold ql;rw [e];simp only;rw [if_neg (by omega),show m.drop j=[] from aaL (by omega)];rfl
 |succ d ih=>
  intro j acc hj ha;have eE:j<m.length:=by omega
  have hc:=hm _ (aaT eE);have amk:256^(j+1)<=256^8:=aaN (by decide) (by omega);have hs:acc *256+m[j].toNat<256^(j+1):=by rw [aaR];omega
  have h64:acc *256+m[j].toNat<2^64:=aaQ hs (by simpa using amk);refine jq (s':=(((acc *256+m[j].toNat:Nat):Int),((j+1:Nat):Int))) ?_ ?_
  ·unfold ql;rw [e];simp only;rw [if_pos (by omega),bP eE,if_pos (by decide),show min (AI 8) (aaV .u64)=8 by decide,ud,ud,wrap64 (by omega) (by omega),show (acc:Int) *2^8%18446744073709551616=((acc *256:Nat):Int) by omega,show m[j]%18446744073709551616=(m[j].toNat:Int) by omega,ahP (by omega) h64];congr 3
  ·rw [ih (j+1) _ (by omega) hs,aaH eE,zY]
theorem MK {b:List Int}(hb:rl b)(hl:b.length<2^40):rC b=some (tkB b):=by
 unfold rC tkB;cases b with
 |nil=>simp [nm,GK]
 |cons y l=>
  obtain ⟨hy,Nf⟩:=hb.cons;have hll:l.length<2^40:=by simp only [fj] at hl;omega
  have e1:IN (AI 1) (IS (AI (((y::l).length:Nat):Int)) (y::l))=l:=by simp
  have ey:sh .i64 y=y:=wrap64 (by omega) (by omega);rw [if_neg (by simp only [fj];omega),iK (by simp),if_pos ⟨by decide,by simp only [fj];omega,Int.le_refl _⟩,e1];simp only [AT,ey];have hg:(if (8:Int)<y then some true else if (0:Int)<y then if (0:Int)<(l.length:Int) then ix l 0 λy1=>some (decide (y1=0)) else some false else some false:Option Bool)=some (decide (8<y.toNat\/(0<y.toNat/\l[0]? =some 0))):=by
   by_cases c1:(8:Int)<y
   ·rw [if_pos c1,decide_eq_true (.inl (by omega))]
   ·rw [if_neg c1];by_cases c2:(0:Int)<y
    ·rw [if_pos c2];cases l with
     |nil=>simp;omega
     |cons c r=>rw [if_pos (by simp only [fj];omega),iK (by simp)];congr 1;rw [decide_eq_decide];simp only [AT,aaJ,aaS];omega
    ·rw [if_neg c2,decide_eq_false (by omega)]
  rw [hg,ar];unfold nm GK;simp only;by_cases c1:8<y.toNat\/(0<y.toNat/\l[0]? =some 0)
  ·rw [if_pos (by simpa using c1),if_pos (by rcases c1 with h|h;exact .inl h;exact .inr (.inl h)),if_pos c1]
  ·rw [if_neg (by simpa using c1)];by_cases c2:l.length<y.toNat
   ·rw [if_pos (by omega),if_pos (.inr (.inr c2)),if_neg c1]
   ·have hlen:(l.take y.toNat).length=y.toNat:=by rw [aaK];omega
    have e2:IN (AI 0) (IS (AI (sh .i64 y)) (IN (AI 1) (IS (AI (((y::l).length:Nat):Int)) (y::l))))=l.take y.toNat:=by rw [e1,ey];simp
    have hL:=afn e2 (Nf.take _) (by omega) y.toNat 0 0 (by omega) (by simp);simp only [aaU,List.drop_zero] at hL;rw [if_neg (by omega),if_pos ⟨by decide,by omega,by omega⟩,hL,ar,if_pos ⟨by omega,by omega,by omega⟩,if_neg (by intro h;rcases h with h|h|h;exact c1 (.inl h);exact c1 (.inr h);exact c2 h)];simp
theorem Oj {b:List Int}(hb:rl b)(hl:b.length<2^40):oo b=some (match gf b with|some (n,r)=>(n,r,0)|none=>(0,[],GK b)):=by
 unfold oo gf;rw [MK hb hl,ar,if_pos (by decide)];unfold tkB;cases ht:nm b with
 |none=>
  simp only;have e:GW .i64 (sh .i64 (Int.fdiv 0 (2^min (AI 1) (aaV .u64)))) (sh .i64 (0-(sh .i64 (Vq .u64 0 1))))=0:=by decide+kernel
  rw [e]
 |some p=>
  obtain ⟨u,r⟩:=p;obtain ⟨_,hu,_⟩:=rS hb ht;simp only;congr 2;rw [and_one hu,show AI 1=1 from rfl,GJ u 1 (by decide),wrap64 (x:=((u/2^1:Nat):Int)) (by omega) (by omega)];unfold uz;by_cases c:u%2=1
  ·rw [if_pos c,c,wrap64 (by decide) (by decide),wrap64 (by decide) (by decide),U0 rfl (by omega) _ (by decide),ayT];omega
  ·rw [if_neg c,show u%2=0 by omega,wrap64 (by decide) (by decide),wrap64 (by decide) (by decide),show (0:Int)-((0:Nat):Int)=0 by decide,xor_zero rfl (by omega),wrap64 (by omega) (by omega)]
def tkT (b:List Int)(most:Nat):List UInt8×List Int×Int:=match nm b with
 |some (n,r)=>if most<n then ([],[],5) else if r.length<n then ([],[],2) else (RX (r.take n),r.drop n,0)
 |none=>([],[],GK b)
theorem HP (b:List Int)(most:Nat):(∃s r,vG b most=some (s,r)/\tkT b most=(s,r,0))\/(vG b most=none/\ ∃e,e≠0/\tkT b most=([],[],e)):=by
 unfold vG tkT;cases nm b with
 |none=>exact .inr ⟨rfl,_,ir b,rfl⟩
 |some p=>
  obtain ⟨n,r⟩:=p;simp only;by_cases c1:most<n
  ·exact .inr ⟨if_pos (.inl c1),5,by decide,if_pos c1⟩
  ·by_cases c2:r.length<n
   ·exact .inr ⟨if_pos (.inr c2),2,by decide,by rw [if_neg c1,if_pos c2]⟩
   ·exact .inl ⟨_,_,if_neg (by intro h;rcases h with h|h;exact c1 h;exact c2 h),by rw [if_neg c1,if_neg c2]⟩
theorem zZ {b:List Int}{n:Nat}{r:List Int}(h:nm b=some (n,r)):r.length<=b.length:=by
 unfold nm at h;cases b with
 |nil=>cases h
 |cons y l=>
  simp only at h;split at h
  ·cases h
  ·injection h with h;injection h with _ h2;rw [<-h2,List.length_drop,fj];omega
theorem P4 {n:Nat}{r:List Int}(hr:rl r)(hl:r.length<2^40){most:Nat}(hm:most<2^40)(hn:n<2^64): (if (sh .u64 (imax (most:Int) 0))<(n:Int) then some (([]:List UInt8),([]:List Int),(5:Int)) else if (sh .u64 (r.length:Int))<(n:Int) then some (([]:List UInt8),([]:List Int),2)
 else if (0:Int)<=0/\(0:Int)<=(n:Int)/\(n:Int)<=(r.length:Int) then Q5 (IN (AI 0) (IS (AI (n:Int)) r)) λbs=>if (0:Int)<=(n:Int)/\(n:Int)<=(r.length:Int)/\(r.length:Int)<=(r.length:Int) then some (bs,IN (AI (n:Int)) (IS (AI (r.length:Int)) r),0) else none
 else none)=some (if most<n then (([]:List UInt8),([]:List Int),(5:Int)) else if r.length<n then ([],[],2) else (RX (r.take n),r.drop n,0)):=by
 have e1:sh .u64 (imax (most:Int) 0)=(most:Int):=by unfold imax;rw [ud];split<;>omega
 have e2:sh .u64 (r.length:Int)=(r.length:Int):=by rw [ud];omega
 rw [e1,e2];by_cases c1:most<n
 ·rw [if_pos (by omega),if_pos c1]
 ·rw [if_neg (by omega),if_neg c1];by_cases c2:r.length<n
  ·rw [if_pos (by omega),if_pos c2]
  ·rw [if_neg (by omega),if_neg c2,if_pos ⟨by decide,by omega,by omega⟩,show IN (AI 0) (IS (AI (n:Int)) r)=r.take n by simp,afi (hr.take _),if_pos ⟨by omega,by omega,by omega⟩];simp
theorem ML {b:List Int}(hb:rl b)(hl:b.length<2^40){most:Nat}(hm:most<2^40):ku b (most:Int)=some (tkT b most):=by
 unfold ku tkT;rw [MK hb hl,ar];unfold tkB;cases ht:nm b with
 |none=>simp only [ir b,decide_false,aaO,if_true]
 |some p=>obtain ⟨n,r⟩:=p;obtain ⟨_,hu,hr⟩:=rS hb ht;have hrl:=zZ ht;simp only [decide_true,aaP,aay,if_false];exact P4 hr (by omega) hm hu
theorem afo {y:Int}{l:List Int}(hy:0<=y/\y<=8)(hly:y.toNat<=l.length)(hl:rl l): ∀(d j acc:Nat),j+d=y.toNat->acc<256^j->Loop (u7 (y::l) y) ((acc:Int),((j+1:Nat):Int))=some (zY acc ((l.take y.toNat).drop j):Int):=by
 intro d;have ey:sh .i64 y=y:=wrap64 (by omega) (by omega);induction d with
 |zero=>intro j acc hj _;refine nk ?_;unfold u7;rw [ey];simp only;rw [if_neg (by omega),show (l.take y.toNat).drop j=[] from aaL (by rw [aaK];omega)];rfl
 |succ d ih=>
  intro j acc hj ha;have eE:j<l.length:=by omega
  have hc:=hl _ (aaT eE);have amk:256^(j+1)<=256^8:=aaN (by decide) (by omega);have hs:acc *256+l[j].toNat<256^(j+1):=by rw [aaR];omega
  have h64:acc *256+l[j].toNat<2^64:=aaQ hs (by simpa using amk);refine jq (s':=(((acc *256+l[j].toNat:Nat):Int),((j+1+1:Nat):Int))) ?_ ?_
  ·unfold u7;rw [ey];simp only;rw [if_pos (by omega),bP (by simp only [fj];omega),aaM,ud,ud,ud,wrap64 (by omega) (by omega)];congr 3;omega
  ·have ayU:j<(l.take y.toNat).length:=by rw [aaK];omega
   rw [ih (j+1) _ (by omega) hs,aaH ayU,zY,List.getElem_take]
theorem MM {b:List Int}(hb:rl b)(hl:b.length<2^40):yo b=some (tkB b):=by
 unfold yo tkB;cases b with
 |nil=>simp [nm,GK]
 |cons y l=>
  obtain ⟨hy,Nf⟩:=hb.cons;have hll:l.length<2^40:=by simp only [fj] at hl;omega
  have ey:sh .i64 y=y:=wrap64 (by omega) (by omega);rw [if_neg (by simp only [fj];omega),iK (by simp)];simp only [AT,ey];have hg:(if (8:Int)<y then some true else if (0:Int)<y then if (1:Int)<((y::l).length:Int) then ix (y::l) 1 λy1=>some (decide (y1=0)) else some false else some false:Option Bool)=some (decide (8<y.toNat\/(0<y.toNat/\l[0]? =some 0))):=by
   by_cases c1:(8:Int)<y
   ·rw [if_pos c1,decide_eq_true (.inl (by omega))]
   ·rw [if_neg c1];by_cases c2:(0:Int)<y
    ·rw [if_pos c2];cases l with
     |nil=>simp;omega
     |cons c r=>rw [if_pos (by simp only [fj];omega),show (1:Int)=((1:Nat):Int) from rfl,bP (by simp)];congr 1;rw [decide_eq_decide];simp only [aaM,AT,aaJ,aaS];omega
    ·rw [if_neg c2,decide_eq_false (by omega)]
  rw [hg,ar];unfold nm GK;simp only;by_cases c1:8<y.toNat\/(0<y.toNat/\l[0]? =some 0)
  ·rw [if_pos (by simpa using c1),if_pos (by rcases c1 with h|h;exact .inl h;exact .inr (.inl h)),if_pos c1]
  ·rw [if_neg (by simpa using c1),wrap64 (x:=1+y) (by omega) (by omega)];by_cases c2:l.length<y.toNat
   ·rw [if_pos (by simp only [fj];omega),if_pos (.inr (.inr c2)),if_neg c1]
   ·have hL:=afo (y:=y) (l:=l) ⟨by omega,by omega⟩ (by omega) Nf y.toNat 0 0 (by omega) (by simp);simp only [aaU,List.drop_zero,Nat.zero_add,Int.natCast_one] at hL;rw [if_neg (by simp only [fj];omega),hL,ar,if_pos ⟨by omega,by simp only [fj];omega,by omega⟩,if_neg (by intro h;rcases h with h|h|h;exact c1 (.inl h);exact c1 (.inr h);exact c2 h)];congr 3;rw [show AI (1+y)=y.toNat+1 by omega];simp
theorem DE {b:List Int}(hb:rl b)(hl:b.length<2^40):sQ b=some (match gf b with|some (n,r)=>(n,r,0)|none=>(0,[],GK b)):=by
 unfold sQ gf;rw [MM hb hl,ar];unfold tkB;cases ht:nm b with
 |none=>simp only [ir b,decide_false,aaO,if_true]
 |some p=>
  obtain ⟨u,r⟩:=p;obtain ⟨_,hu,_⟩:=rS hb ht;simp only [decide_true,aaP,aay,if_false];rw [if_pos (show (!decide ((2:Int)=0))=true by decide),OF (aav _),IT (aav _),ud];unfold uz;by_cases c:u%2=1
  ·rw [if_pos (by omega),if_pos (show (!decide ((2:Int)=0))=true by decide),if_pos c,wrap64 (x:=(u:Int)/2%18446744073709551616) (by omega) (by omega),wrap64 (x:=0-(u:Int)/2%18446744073709551616) (by omega) (by omega),wrap64 (by omega) (by omega)];congr 2;omega
  ·rw [if_neg (by omega),if_pos (show (!decide ((2:Int)=0))=true by decide),if_neg c,wrap64 (by omega) (by omega)];congr 2;omega
theorem BN {b:List Int}(hb:rl b)(hl:b.length<2^40){most:Nat}(hm:most<2^40):jH b (most:Int)=some (tkT b most):=by
 unfold jH tkT;rw [MM hb hl,ar];unfold tkB;cases ht:nm b with
 |none=>simp only [ir b,decide_false,aaO,if_true]
 |some p=>obtain ⟨n,r⟩:=p;obtain ⟨_,hu,hr⟩:=rS hb ht;have hrl:=zZ ht;simp only [decide_true,aaP,aay,if_false];exact P4 hr (by omega) hm hu
end Dn.S
