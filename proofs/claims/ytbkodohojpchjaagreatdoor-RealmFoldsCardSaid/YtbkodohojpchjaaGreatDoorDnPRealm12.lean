import Derived.Test.YtbkodohojpchjaaGreatDoorDnPRealm11
/-
  Realms as bytes: there are such bytes; RealmApplies. Conditions: none.
-/
set_option linter.unusedVariables false
set_option linter.unusedSimpArgs false
open Nat renaming mul_le_mul_right→c9,le_trans→sh,le_of_lt→BY,zero_le→IN
open List renaming length_map→AI,length_nil→AS,length_cons→AT,getElem_mem→By,mem_map→IT
open Go.IntKind renaming wrap→IS,signed→No,bits→OF
open Go Dn
namespace Dn.S
theorem wU8 (x:Int):IS .u8 x=x%256:=by simp [IS,OF,No]
theorem OV (x:Int):IS .u64 x=x%18446744073709551616:=by simp [IS,OF,No]
theorem MU {x:Int}(h0:0<=x)(h1:x<256):isByte x=true:=by unfold isByte;refine decide_eq_true ?_;rw [UInt8.toNat_ofNat'];omega
structure BD (l:List Int) (N:Nat):Prop where
 len:l.length<=N
 all:l.all isByte=true
theorem BD.app {l m:List Int}{N M:Nat}(h:BD l N)(h2:BD m M):BD (l++m) (N+M):=⟨by rw [List.length_append];have:=h.len;have:=h2.len;omega,by rw [List.all_append,h.all,h2.all];rfl⟩
theorem BD.one {x:Int}(h0:0<=x)(h1:x<256):BD [x] 1:=⟨by simp,by rw [List.all_cons,MU h0 h1];rfl⟩
theorem BD.le {l:List Int}{N M:Nat}(h:BD l N)(hm:N<=M):BD l M:=⟨sh h.len hm,h.all⟩
theorem BD.str (s:List UInt8):BD (Qf s) s.length:=⟨by unfold Qf;rw [AI];exact Nat.le_refl _,by unfold Qf;rw [List.all_map,List.all_eq_true];intro b _;have:=UInt8.toNat_lt b;show isByte (b.toNat:Int)=true;exact MU (by omega) (by omega)⟩
theorem T8 {n:Int}(h0:0<=n)(h1:n<18446744073709551616):aO (Ad n) λk=>1<=k/\k<=9:=by
 unfold Ad;refine aO.bd (P:=λk=>1<=k/\k<=9) ?_ (λk hk=> .mk hk);refine aO.loop (λst:Int×Int=> ∃j:Nat,j<=8/\st.2=1+(j:Int)/\0<=st.1/\st.1<18446744073709551616/\st.1<(256:Int)^(8-j)) (λst=>st.1.toNat) ⟨0,by omega,by simp,h0,h1,by simpa using h1⟩ ?_;rintro ⟨x,k⟩ ⟨j,hj,hk,XY,hb,CX⟩;dsimp only at hk XY CX hb;unfold CA;dsimp only;by_cases hp:0<x
 ·have hj8:j<8:=by
   by_cases h8:j=8
   ·subst h8;simp at CX;omega
   ·omega
  have hpw:(256:Int)^(8-j)=256 *256^(8-(j+1)):=by rw [show 8-j=(8-(j+1))+1 by omega,Int.pow_succ,Int.mul_comm]
  have dY:x/256<(256:Int)^(8-(j+1)):=by rw [hpw] at CX;generalize (256:Int)^(8-(j+1))=p at CX;omega
  rw [if_pos hp,if_pos (by decide),wrap64 (by omega) (by omega),Int.tdiv_eq_ediv_of_nonneg XY,OV,Int.emod_eq_of_lt (by omega) (by omega)];exact .mk ⟨⟨j+1,by omega,by dsimp only;omega,by dsimp only;omega,by dsimp only;omega,dY⟩,by dsimp only;omega⟩
 ·rw [if_neg hp];exact .mk (by omega)
theorem BE {b:List Int}{N:Nat}(hb:BD b N)(hN:N<=2^45){n:Int}(h0:0<=n)(h1:n<18446744073709551616):aO (vd b n) λl=>BD l (N+9):=by
 unfold vd;have hl:=hb.len;obtain ⟨k,hk,EN⟩:=T8 h0 h1;rw [if_pos (by simp only [AS];omega),hk,av,List.nil_append,wrap64 (show-9223372036854775808<=k-1 by omega) (by omega),wU8,wrap64 (show-9223372036854775808<=k-1-1 by omega) (by omega),if_pos (by simp only [AT,AS];omega)];refine aO.bd (P:=λl=>BD l (N+9)) ?_ (λl hl=> .mk hl);have vZ:BD (b++[(k-1)%256]) (N+1):=hb.app (.one (by omega) (by omega));refine aO.loop (λst:List Int×Int=> -1<=st.2/\st.2<=7/\BD st.1 (N+1+(7-st.2).toNat)) (λst=>(st.2+1).toNat) ⟨by dsimp only;omega,by dsimp only;omega,vZ.le (by omega)⟩ ?_;rintro ⟨l,i⟩ ⟨hi0,uX,vF⟩;dsimp only at hi0 uX vF;unfold Fk;dsimp only;by_cases hp:0<=i
 ·rw [if_pos hp];refine aO.bd (P:=λ_=>True) ?_ ?_
  ·refine aO.loop (λst:Int×Int=>0<=st.2/\st.2<=8) (λst=>(i-st.2).toNat) ⟨Int.le_refl 0,by show (0:Int)<=8;decide⟩ ?_;rintro ⟨x,j⟩ ⟨hj0,hj1⟩;dsimp only at hj0 hj1;unfold Fj;dsimp only;by_cases hj:j<i
   ·rw [if_pos hj,if_pos (by decide),wrap64 (by omega) (by omega)];exact .mk ⟨⟨by dsimp only;omega,by dsimp only;omega⟩,by dsimp only;omega⟩
   ·rw [if_neg hj];exact .mk trivial
  ·intro x _;have h2:=vF.len;rw [if_pos (by decide),wU8,if_pos (by simp only [AT,AS];omega),wrap64 (by omega) (by omega)];refine .mk ⟨⟨by dsimp only;omega,by dsimp only;omega,?_⟩,by dsimp only;omega⟩;dsimp only;exact (vF.app (.one (by omega) (by omega))).le (by omega)
 ·rw [if_neg hp];exact .mk (vF.le (by omega))
theorem hU {b:List Int}{N:Nat}(hb:BD b N)(hN:N<=2^45)(n:Int):aO (iZ b n) λl=>BD l (N+9):=by
 unfold iZ;by_cases h:n<0
 ·rw [if_pos h];refine aO.bd (BE hb hN ?_ ?_) (λl hl=> .mk hl)
  ·rw [OV];omega
  ·rw [OV];omega
 ·rw [if_neg h];refine aO.bd (BE hb hN ?_ ?_) (λl hl=> .mk hl)
  ·rw [OV];omega
  ·rw [OV];omega
theorem uw {b:List Int}{N:Nat}(hb:BD b N){s:List UInt8}{M:Nat}(hs:s.length<=M)(hN:N+M<=2^45):aO (pe b s) λl=>BD l (N+9+M):=by unfold pe;refine aO.bd (BE hb (by omega) (by rw [OV];omega) (by rw [OV];omega)) λl hl=> ?_;have h1:=hl.len;have h2:=(BD.str s).len;rw [if_pos (by omega)];exact .mk (hl.app ((BD.str s).le hs))
theorem qE {n c N:Nat}{body:List Int×Int->Option ((List Int×Int)⊕List Int)}{b:List Int}(hb:BD b N)(h: ∀(k:Nat)(l:List Int),k<n->BD l (N+k *c)->aO (body (l,(k:Int))) λx=> ∃l',x= .inl (l',((k+1:Nat):Int))/\BD l' (N+k *c+c))(he: ∀l:List Int,body (l,(n:Int))=some (.inr l)):aO (Loop body (b,0)) λl=>BD l (N+n *c):=by
 refine aO.loop (λst:List Int×Int=> ∃k:Nat,st.2=(k:Int)/\k<=n/\BD st.1 (N+k *c)) (λst=>n-st.2.toNat) ⟨0,rfl,IN _,by simpa using hb⟩ ?_;rintro ⟨l,i⟩ ⟨k,hk,X6,hl⟩;dsimp only at hk hl;subst hk;by_cases dY:k<n
 ·obtain ⟨x,hx,l',rfl,BH⟩:=h k l dY hl;refine .of hx ⟨⟨k+1,rfl,dY,?_⟩,by dsimp only;omega⟩;dsimp only;rw [Nat.succ_mul];exact BH.le (by omega)
 ·have:k=n:=by omega
  subst this;exact .of (he l) hl
theorem T9 {b:List Int}{N:Nat}(hb:BD b N)(hN:N<=2^44){L:List (List UInt8)}(hL:L.length<=1000)(hx: ∀s∈L,s.length<=1000):aO (Ae b L) λl=>BD l (N+9+1000 *1009):=by
 unfold Ae;refine aO.bd (BE hb (by omega) (by rw [OV];omega) (by rw [OV];omega)) λl hl=> ?_;refine aO.bd (P:=λl=>BD l (N+9+1000 *1009)) ?_ (λl hl=> .mk hl);refine (qE (n:=L.length) (c:=1009) hl (λk l hk hl=> ?_) (λl=> ?_)).imp λl hl=>hl.le (by have:=c9 1009 hL;omega)
 ·have hkl:=c9 1009 (sh (BY hk) hL);unfold xS;dsimp only;rw [if_pos (by omega),ba hk];refine aO.bd (uw hl (hx _ (By hk)) (by omega)) λl' BH=> ?_;rw [wrap64 (by omega) (by omega)];exact .mk ⟨l',rfl,BH.le (by omega)⟩
 ·unfold xS;dsimp only;rw [if_neg (by omega)]
theorem RL {b:List Int}{N:Nat}(hb:BD b N)(hN:N<=2^43){y:aw}(hv:y.Value.length<=2000)(hL:y.Names.length<=1000)(hx: ∀s∈y.Names,s.length<=1000):aO (pg b y) λl=>BD l (N+1100000):=by
 unfold pg;refine aO.bd (P:=λl=>BD l (N+4 *9)) ?_ λl hl=> ?_
 ·refine qE (n:=4) (c:=9) hb (λk l hk hl=> ?_) (λl=> ?_)
  ·unfold pf;dsimp only;rw [if_pos (by simp only [AT,AS];omega),ba (show k<([y.Client,y.Seq,y.E,y.Version]:List Int).length by simpa using hk)];refine aO.bd (hU hl (by omega) _) λl' BH=> ?_;rw [wrap64 (by omega) (by omega)];exact .mk ⟨l',rfl,BH⟩
  ·unfold pf;dsimp only;rw [if_neg (by simp only [AT,AS];omega)]
 ·refine aO.bd (uw hl hv (by omega)) λl2 sE=> ?_;refine aO.bd (T9 sE (by omega) hL hx) λl3 hl3=> .mk (hl3.le (by omega))
structure aiX (r:bM):Prop where
 nodes:r.Shelf.L.length<=1000
 node: ∀n∈r.Shelf.L,n.Path.length<=2000/\n.Value.length<=2000
 book:r.aL.L.length<=1000
 afm:r.aS.L.length<=1000
 watch: ∀w∈r.aS.L,w.Path.length<=2000
 afn:r.Seen.length<=1000
 amL: ∀y∈r.Seen,y.Value.length<=2000/\y.Names.length<=1000/\ ∀s∈y.Names,s.length<=1000
theorem RM {r:bM}(h:aiX r):aO (wR r) λl=>l.all isByte=true:=by
 have h1:=h.nodes;have h2:=h.book;have h3:=h.afm;have h4:=h.afn;unfold wR;refine aO.bd (hU (N:=0) ⟨by simp,by simp⟩ (by omega) _) λa ha=> ?_;refine aO.bd (qE (n:=r.Shelf.L.length) (c:=5000) ha (λk l hk hl=> ?_) (λl=> ?_)) λb hb=> ?_
 ·have hkl:=c9 5000 (sh (BY hk) h1);unfold xT;dsimp only;rw [if_pos (by omega),ba hk];obtain ⟨n1,n2⟩:=h.node _ (By hk);refine aO.bd (uw hl n1 (by omega)) λl1 A3=> ?_;refine aO.bd (uw A3 n2 (by omega)) λl2 sE=> ?_;refine aO.bd (hU sE (by omega) _) λl3 hl3=> ?_;refine aO.bd (hU hl3 (by omega) _) λl4 hl4=> ?_;rw [wrap64 (by omega) (by omega)];exact .mk ⟨l4,rfl,hl4.le (by omega)⟩
 ·unfold xT;dsimp only;rw [if_neg (by omega)]
 have hb:=hb.le (M:=6000000) (by have:=c9 5000 h1;omega);refine aO.bd (hU hb (by omega) _) λc hc=> ?_;refine aO.bd (hU hc (by omega) _) λd hd=> ?_;refine aO.bd (qE (n:=r.aL.L.length) (c:=5000) hd (λk l hk hl=> ?_) (λl=> ?_)) λe he=> ?_
 ·have hkl:=c9 5000 (sh (BY hk) h2);unfold xU;dsimp only;rw [if_pos (by omega),ba hk];refine aO.bd (hU hl (by omega) _) λl1 A3=> ?_;refine aO.bd (hU A3 (by omega) _) λl2 sE=> ?_;refine aO.bd (hU sE (by omega) _) λl3 hl3=> ?_;rw [wrap64 (by omega) (by omega)];exact .mk ⟨l3,rfl,hl3.le (by omega)⟩
 ·unfold xU;dsimp only;rw [if_neg (by omega)]
 have he:=he.le (M:=12000000) (by have:=c9 5000 h2;omega);refine aO.bd (hU he (by omega) _) λf hf=> ?_;refine aO.bd (qE (n:=r.aS.L.length) (c:=5000) hf (λk l hk hl=> ?_) (λl=> ?_)) λg hg=> ?_
 ·have hkl:=c9 5000 (sh (BY hk) h3);unfold xV;dsimp only;rw [if_pos (by omega),ba hk];refine aO.bd (uw hl (h.watch _ (By hk)) (by omega)) λl1 A3=> ?_;refine aO.bd (hU A3 (by omega) _) λl2 sE=> ?_;refine aO.bd (P:=λl3=>BD l3 (9+12000000+k *5000+5000)) ?_ λl3 hl3=> ?_
  ·cases r.aS.L[k].Kids with
   |true=>rw [if_pos rfl];refine aO.bd (hU sE (by omega) _) λl3 hl3=> .mk (hl3.le (by omega))
   |false=>rw [if_neg (by decide)];refine aO.bd (hU sE (by omega) _) λl3 hl3=> .mk (hl3.le (by omega))
  ·rw [wrap64 (by omega) (by omega)];exact .mk ⟨l3,rfl,hl3.le (by omega)⟩
 ·unfold xV;dsimp only;rw [if_neg (by omega)]
 have hg:=hg.le (M:=18000000) (by have:=c9 5000 h3;omega);refine aO.bd (hU hg (by omega) _) λi hi=> ?_;refine aO.bd (P:=λl=>l.all isByte=true) ?_ (λl hl=> .mk hl);refine (qE (n:=r.Seen.length) (c:=1100000) hi (λk l hk hl=> ?_) (λl=> ?_)).imp λl hl=>hl.all
 ·have hkl:=c9 1100000 (sh (BY hk) h4);unfold xW;dsimp only;rw [if_pos (by omega),ba hk];obtain ⟨n1,n2,n3⟩:=h.amL _ (By hk);refine aO.bd (RL hl (by omega) n1 n2 n3) λl1 A3=> ?_;rw [wrap64 (by omega) (by omega)];exact .mk ⟨l1,rfl,A3⟩
 ·unfold xW;dsimp only;rw [if_neg (by omega)]
theorem OW {r:bM}(h:aiX r):Af r r=some true:=by obtain ⟨l,hl,hb⟩:=RM h;unfold Af KS;rw [hl,av,if_pos hb];dsimp only;rw [av,if_pos hb,decide_eq_true rfl]
def ux (y:ai):Prop:=y.Value.length<=1100/\y.Names.length<=1000/\ ∀s∈y.Names,s.length<=1000
def FN (r:ap):Prop:= ∀y∈r.Seen,ux y
theorem amM {r:ap}(h:e8 r)(hs:FN r):aiX (gK r):=by
 have h1:=h.shelf.len;have h2:=h.book.len;have h3:=h.table.len;have h4:=h.few;refine ⟨?_,λn hn=> ?_,?_,?_,λw hw=> ?_,?_,λy hy=> ?_⟩
 ·show (r.Shelf.L.map toR).length<=1000;rw [AI];omega
 ·obtain ⟨m,hm,rfl⟩:=IT.1 hn;have p1:=(cR (h.shelf.ord.1 m hm)).1;have p2:=(h.shelf.zf m hm).1;exact ⟨by show m.Path.length<=2000;omega,by show m.Value.length<=2000;omega⟩
 ·show (r.aL.L.map oK).length<=1000;rw [AI];omega
 ·show (r.aS.L.map sb).length<=1000;rw [AI];omega
 ·obtain ⟨m,hm,rfl⟩:=IT.1 hw;have p1:=(cR (h.table.all m hm).1).1;show m.Path.length<=2000;omega
 ·show (r.Seen.map kh).length<=1000;rw [AI];omega
 ·obtain ⟨m,hm,rfl⟩:=IT.1 hy;obtain ⟨p1,p2,p3⟩:=hs m hm;exact ⟨by show m.Value.length<=2000;omega,p2,p3⟩
theorem XN {L:List ah}(h:ga L)(p:List UInt8):(en L p).1.Value.length<=1000:=by
 rcases Xp h.ord p with ⟨n,hn,_,he⟩|⟨_,he⟩
 ·rw [he];exact (h.zf n hn).1
 ·rw [he];exact IN _
theorem Ua {L:List ah}(h:ga L)(p:List UInt8):(nD L p).1.length<=1000/\ ∀s∈(nD L p).1,s.length<=1000:=by
 have hl:=Xn L p;have:=h.len;refine ⟨by omega,λs hs=> ?_⟩;unfold nD at hs;split at hs
 ·rename_i hf;obtain ⟨hp,_⟩:=OI hf;unfold jI at hs;obtain ⟨n,hn,rfl⟩:=IT.1 hs;obtain ⟨KH,GL⟩:=List.mem_filter.1 hn;have:=Xk (abA (h.ord.1 n KH) hp GL).1;omega
 ·cases hs
theorem ab5 {w:aj}(hp:eH w.r)(h:ux w.x):ux (AP w).x:=by
 have mk: ∀(x:ai) (e v:Int),ux x->ux {x with E:=e,Version:=v}:=λx e v hx=>hx;unfold AP;split
 ·exact h
 split
 ·unfold yO;split
  ·exact h
  ·rw [MP];exact h
 split
 ·exact ⟨sh (XN hp.shelf w.o.Path) (by omega),h.2⟩
 split
 ·unfold Rw MN;split
  ·exact mk _ _ _ (by rw [MP];exact h)
  ·rw [MP];exact h
 split
 ·unfold EI;rw [MP];exact h
 split
 ·exact ⟨h.1,Ua hp.shelf w.o.Path⟩
 split
 ·exact h
 split
 ·exact h
 split
 ·unfold AO;split<;>exact h
 split
 ·unfold GF;split
  ·rename_i he;obtain ⟨h1,h2,h3,h4,h5,h6⟩:=vz (p0 w.r.aL w.o.Span) (v:=uv w) (mz hp (HK hp.book he));rw [h3];exact h
  ·exact h
 ·exact h
theorem rS (o:ar)(e:Int):ux (cY o e):=⟨IN _,IN _,λs hs=>by cases hs⟩
theorem RN {r:ap}(h:e8 r)(hn:FN r)(o:ar):FN (dV r o).1/\ux (dV r o).2.1:=by
 have X6:ux (fI r.Seen o).1:=by
  unfold fI;split
  ·exact rS o 1
  split
  ·rename_i hl;split
   ·exact hn _ (ab0 h.inc hl).1
   split
   ·exact rS o 15
   ·exact rS o 0
  ·split
   ·exact rS o 9
   ·exact rS o 0
 unfold dV;cases hk:(fI r.Seen o).2 with
 |true=>exact ⟨hn,X6⟩
 |false=>
  rw [if_neg (by decide)];obtain ⟨hm,EW,A3,sE⟩:=BB hk;have hd:CU ⟨r,o,(fI r.Seen o).1,[]⟩ (gZ r o):=VJ (w:=⟨r,o,(fI r.Seen o).1,[]⟩) h.toeH;have hxc:(gZ r o).x.Client=o.Client:=by rw [hd.dK,EW];rfl
  have hx:ux (gZ r o).x:=ab5 (w:=⟨r,o,(fI r.Seen o).1,[]⟩) h.toeH X6;refine ⟨λy hy=> ?_,hx⟩;rcases (abY h.inc hxc y).1 hy with rfl|⟨hy,_⟩
  ·exact hx
  ·exact hn y hy
theorem XO {r:ap}(h:e8 r)(o:ar):(dV r o).2.2.length<=200:=by
 have:=h.table.len;rcases (EJ h o).2.2 with h|⟨h,_⟩
 ·omega
 ·rw [h];exact IN _
end Dn.S
