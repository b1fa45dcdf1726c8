import Derived.Test.YtbkodohojpchjaaGreatDoorDnPRealm11
/-
  Realms as bytes: there are such bytes; RealmApplies. Conditions: none.
-/
set_option linter.unusedVariables false
set_option linter.unusedSimpArgs false
open Nat renaming mul_le_mul_right→c8,le_trans→AS,le_of_lt→BY,zero_le→IN
open List renaming length_map→sh,length_nil→AI,length_cons→AT,getElem_mem→By,mem_map→IT,mem_iff_getElem→No
open Go.IntKind renaming wrap→IS,signed→OF,bits→aaa
open Go Dn
namespace Dn.S
theorem wU8 (x:Int):IS .u8 x=x%256:=by simp [IS,aaa,OF]
theorem OY (x:Int):IS .u64 x=x%18446744073709551616:=by simp [IS,aaa,OF]
theorem M5 {x:Int}(h0:0<=x)(h1:x<256):isByte x=true:=by unfold isByte;refine decide_eq_true ?_;rw [UInt8.toNat_ofNat'];omega
structure BV (l:List Int) (N:Nat):Prop where
 len:l.length<=N
 all:l.all isByte=true
theorem BV.app {l m:List Int}{N M:Nat}(h:BV l N)(h2:BV m M):BV (l++m) (N+M):=⟨by rw [List.length_append];have:=h.len;have:=h2.len;omega,by rw [List.all_append,h.all,h2.all];rfl⟩
theorem BV.one {x:Int}(h0:0<=x)(h1:x<256):BV [x] 1:=⟨by simp,by rw [List.all_cons,M5 h0 h1];rfl⟩
theorem BV.le {l:List Int}{N M:Nat}(h:BV l N)(hm:N<=M):BV l M:=⟨AS h.len hm,h.all⟩
theorem BV.str (s:List UInt8):BV (Qc s) s.length:=⟨by unfold Qc;rw [sh];exact Nat.le_refl _,by unfold Qc;rw [List.all_map,List.all_eq_true];intro b _;have:=UInt8.toNat_lt b;show isByte (b.toNat:Int)=true;exact M5 (by omega) (by omega)⟩
theorem Ur {n:Int}(h0:0<=n)(h1:n<18446744073709551616):aM (Aq n) λk=>1<=k/\k<=9:=by
 unfold Aq;refine aM.bd (P:=λk=>1<=k/\k<=9) ?_ (λk hk=> .mk hk);refine aM.loop (λst:Int×Int=> ∃j:Nat,j<=8/\st.2=1+(j:Int)/\0<=st.1/\st.1<18446744073709551616/\st.1<(256:Int)^(8-j)) (λst=>st.1.toNat) ⟨0,by omega,by simp,h0,h1,by simpa using h1⟩ ?_;rintro ⟨x,k⟩ ⟨j,hj,hk,Yf,hb,De⟩;dsimp only at hk Yf De hb;unfold CT;dsimp only;by_cases hp:0<x
 ·have hj8:j<8:=by
   by_cases h8:j=8
   ·subst h8;simp at De;omega
   ·omega
  have hpw:(256:Int)^(8-j)=256 *256^(8-(j+1)):=by rw [show 8-j=(8-(j+1))+1 by omega,Int.pow_succ,Int.mul_comm]
  have dK:x/256<(256:Int)^(8-(j+1)):=by rw [hpw] at De;generalize (256:Int)^(8-(j+1))=p at De;omega
  rw [if_pos hp,if_pos (by decide),wrap64 (by omega) (by omega),Int.tdiv_eq_ediv_of_nonneg Yf,OY,Int.emod_eq_of_lt (by omega) (by omega)];exact .mk ⟨⟨j+1,by omega,by dsimp only;omega,by dsimp only;omega,by dsimp only;omega,dK⟩,by dsimp only;omega⟩
 ·rw [if_neg hp];exact .mk (by omega)
theorem BW {b:List Int}{N:Nat}(hb:BV b N)(hN:N<=2^45){n:Int}(h0:0<=n)(h1:n<18446744073709551616):aM (vf b n) λl=>BV l (N+9):=by
 unfold vf;have hl:=hb.len;obtain ⟨k,hk,CM⟩:=Ur h0 h1;rw [if_pos (by simp only [AI];omega),hk,al,List.nil_append,wrap64 (show-9223372036854775808<=k-1 by omega) (by omega),wU8,wrap64 (show-9223372036854775808<=k-1-1 by omega) (by omega),if_pos (by simp only [AT,AI];omega)];refine aM.bd (P:=λl=>BV l (N+9)) ?_ (λl hl=> .mk hl);have wj:BV (b++[(k-1)%256]) (N+1):=hb.app (.one (by omega) (by omega));refine aM.loop (λst:List Int×Int=> -1<=st.2/\st.2<=7/\BV st.1 (N+1+(7-st.2).toNat)) (λst=>(st.2+1).toNat) ⟨by dsimp only;omega,by dsimp only;omega,wj.le (by omega)⟩ ?_;rintro ⟨l,i⟩ ⟨hi0,uX,vH⟩;dsimp only at hi0 uX vH;unfold Fq;dsimp only;by_cases hp:0<=i
 ·rw [if_pos hp];refine aM.bd (P:=λ_=>True) ?_ ?_
  ·refine aM.loop (λst:Int×Int=>0<=st.2/\st.2<=8) (λst=>(i-st.2).toNat) ⟨Int.le_refl 0,by show (0:Int)<=8;decide⟩ ?_;rintro ⟨x,j⟩ ⟨hj0,hj1⟩;dsimp only at hj0 hj1;unfold Fp;dsimp only;by_cases hj:j<i
   ·rw [if_pos hj,if_pos (by decide),wrap64 (by omega) (by omega)];exact .mk ⟨⟨by dsimp only;omega,by dsimp only;omega⟩,by dsimp only;omega⟩
   ·rw [if_neg hj];exact .mk trivial
  ·intro x _;have h2:=vH.len;rw [if_pos (by decide),wU8,if_pos (by simp only [AT,AI];omega),wrap64 (by omega) (by omega)];refine .mk ⟨⟨by dsimp only;omega,by dsimp only;omega,?_⟩,by dsimp only;omega⟩;dsimp only;exact (vH.app (.one (by omega) (by omega))).le (by omega)
 ·rw [if_neg hp];exact .mk (vH.le (by omega))
theorem hU {b:List Int}{N:Nat}(hb:BV b N)(hN:N<=2^45)(n:Int):aM (ja b n) λl=>BV l (N+9):=by
 unfold ja;by_cases h:n<0
 ·rw [if_pos h];refine aM.bd (BW hb hN ?_ ?_) (λl hl=> .mk hl)
  ·rw [OY];omega
  ·rw [OY];omega
 ·rw [if_neg h];refine aM.bd (BW hb hN ?_ ?_) (λl hl=> .mk hl)
  ·rw [OY];omega
  ·rw [OY];omega
theorem uy {b:List Int}{N:Nat}(hb:BV b N){s:List UInt8}{M:Nat}(hs:s.length<=M)(hN:N+M<=2^45):aM (pg b s) λl=>BV l (N+9+M):=by unfold pg;refine aM.bd (BW hb (by omega) (by rw [OY];omega) (by rw [OY];omega)) λl hl=> ?_;have h1:=hl.len;have h2:=(BV.str s).len;rw [if_pos (by omega)];exact .mk (hl.app ((BV.str s).le hs))
theorem qx {n c N:Nat}{body:List Int×Int->Option ((List Int×Int)⊕List Int)}{b:List Int}(hb:BV b N)(h: ∀(k:Nat)(l:List Int),k<n->BV l (N+k *c)->aM (body (l,(k:Int))) λx=> ∃l',x= .inl (l',((k+1:Nat):Int))/\BV l' (N+k *c+c))(he: ∀l:List Int,body (l,(n:Int))=some (.inr l)):aM (Loop body (b,0)) λl=>BV l (N+n *c):=by
 refine aM.loop (λst:List Int×Int=> ∃k:Nat,st.2=(k:Int)/\k<=n/\BV st.1 (N+k *c)) (λst=>n-st.2.toNat) ⟨0,rfl,IN _,by simpa using hb⟩ ?_;rintro ⟨l,i⟩ ⟨k,hk,Yn,hl⟩;dsimp only at hk hl;subst hk;by_cases dK:k<n
 ·obtain ⟨x,hx,l',rfl,B0⟩:=h k l dK hl;refine .of hx ⟨⟨k+1,rfl,dK,?_⟩,by dsimp only;omega⟩;dsimp only;rw [Nat.succ_mul];exact B0.le (by omega)
 ·have:k=n:=by omega
  subst this;exact .of (he l) hl
theorem Us {b:List Int}{N:Nat}(hb:BV b N)(hN:N<=2^44){L:List (List UInt8)}(hL:L.length<=1000)(hx: ∀s∈L,s.length<=1000):aM (Ar b L) λl=>BV l (N+9+1000 *1009):=by
 unfold Ar;refine aM.bd (BW hb (by omega) (by rw [OY];omega) (by rw [OY];omega)) λl hl=> ?_;refine aM.bd (P:=λl=>BV l (N+9+1000 *1009)) ?_ (λl hl=> .mk hl);refine (qx (n:=L.length) (c:=1009) hl (λk l hk hl=> ?_) (λl=> ?_)).imp λl hl=>hl.le (by have:=c8 1009 hL;omega)
 ·have hkl:=c8 1009 (AS (BY hk) hL);unfold ye;dsimp only;rw [if_pos (by omega),aP hk];refine aM.bd (uy hl (hx _ (By hk)) (by omega)) λl' B0=> ?_;rw [wrap64 (by omega) (by omega)];exact .mk ⟨l',rfl,B0.le (by omega)⟩
 ·unfold ye;dsimp only;rw [if_neg (by omega)]
theorem RW {b:List Int}{N:Nat}(hb:BV b N)(hN:N<=2^43){y:aD}(hv:y.Value.length<=2000)(hL:y.Names.length<=1000)(hx: ∀s∈y.Names,s.length<=1000):aM (pj b y) λl=>BV l (N+1100000):=by
 unfold pj;refine aM.bd (P:=λl=>BV l (N+4 *9)) ?_ λl hl=> ?_
 ·refine qx (n:=4) (c:=9) hb (λk l hk hl=> ?_) (λl=> ?_)
  ·unfold pi;dsimp only;rw [if_pos (by simp only [AT,AI];omega),aP (show k<([y.Client,y.Seq,y.E,y.Version]:List Int).length by simpa using hk)];refine aM.bd (hU hl (by omega) _) λl' B0=> ?_;rw [wrap64 (by omega) (by omega)];exact .mk ⟨l',rfl,B0⟩
  ·unfold pi;dsimp only;rw [if_neg (by simp only [AT,AI];omega)]
 ·refine aM.bd (uy hl hv (by omega)) λl2 sr=> ?_;refine aM.bd (Us sr (by omega) hL hx) λl3 hl3=> .mk (hl3.le (by omega))
structure ajc (r:b6):Prop where
 nodes:r.Shelf.L.length<=1000
 node: ∀n∈r.Shelf.L,n.Path.length<=2000/\n.Value.length<=2000
 book:r.aN.L.length<=1000
 afy:r.aR.L.length<=1000
 watch: ∀w∈r.aR.L,w.Path.length<=2000
 afz:r.Seen.length<=1000
 am0: ∀y∈r.Seen,y.Value.length<=2000/\y.Names.length<=1000/\ ∀s∈y.Names,s.length<=1000
theorem RX {r:b6}(h:ajc r):aM (xb r) λl=>l.all isByte=true:=by
 have h1:=h.nodes;have h2:=h.book;have h3:=h.afy;have h4:=h.afz;unfold xb;refine aM.bd (hU (N:=0) ⟨by simp,by simp⟩ (by omega) _) λa ha=> ?_;refine aM.bd (qx (n:=r.Shelf.L.length) (c:=5000) ha (λk l hk hl=> ?_) (λl=> ?_)) λb hb=> ?_
 ·have hkl:=c8 5000 (AS (BY hk) h1);unfold yf;dsimp only;rw [if_pos (by omega),aP hk];obtain ⟨n1,n2⟩:=h.node _ (By hk);refine aM.bd (uy hl n1 (by omega)) λl1 Bh=> ?_;refine aM.bd (uy Bh n2 (by omega)) λl2 sr=> ?_;refine aM.bd (hU sr (by omega) _) λl3 hl3=> ?_;refine aM.bd (hU hl3 (by omega) _) λl4 hl4=> ?_;rw [wrap64 (by omega) (by omega)];exact .mk ⟨l4,rfl,hl4.le (by omega)⟩
 ·unfold yf;dsimp only;rw [if_neg (by omega)]
 have hb:=hb.le (M:=6000000) (by have:=c8 5000 h1;omega);refine aM.bd (hU hb (by omega) _) λc hc=> ?_;refine aM.bd (hU hc (by omega) _) λd hd=> ?_;refine aM.bd (qx (n:=r.aN.L.length) (c:=5000) hd (λk l hk hl=> ?_) (λl=> ?_)) λe he=> ?_
 ·have hkl:=c8 5000 (AS (BY hk) h2);unfold yg;dsimp only;rw [if_pos (by omega),aP hk];refine aM.bd (hU hl (by omega) _) λl1 Bh=> ?_;refine aM.bd (hU Bh (by omega) _) λl2 sr=> ?_;refine aM.bd (hU sr (by omega) _) λl3 hl3=> ?_;rw [wrap64 (by omega) (by omega)];exact .mk ⟨l3,rfl,hl3.le (by omega)⟩
 ·unfold yg;dsimp only;rw [if_neg (by omega)]
 have he:=he.le (M:=12000000) (by have:=c8 5000 h2;omega);refine aM.bd (hU he (by omega) _) λf hf=> ?_;refine aM.bd (qx (n:=r.aR.L.length) (c:=5000) hf (λk l hk hl=> ?_) (λl=> ?_)) λg hg=> ?_
 ·have hkl:=c8 5000 (AS (BY hk) h3);unfold yh;dsimp only;rw [if_pos (by omega),aP hk];refine aM.bd (uy hl (h.watch _ (By hk)) (by omega)) λl1 Bh=> ?_;refine aM.bd (hU Bh (by omega) _) λl2 sr=> ?_;refine aM.bd (P:=λl3=>BV l3 (9+12000000+k *5000+5000)) ?_ λl3 hl3=> ?_
  ·cases r.aR.L[k].Kids with
   |true=>rw [if_pos rfl];refine aM.bd (hU sr (by omega) _) λl3 hl3=> .mk (hl3.le (by omega))
   |false=>rw [if_neg (by decide)];refine aM.bd (hU sr (by omega) _) λl3 hl3=> .mk (hl3.le (by omega))
  ·rw [wrap64 (by omega) (by omega)];exact .mk ⟨l3,rfl,hl3.le (by omega)⟩
 ·unfold yh;dsimp only;rw [if_neg (by omega)]
 have hg:=hg.le (M:=18000000) (by have:=c8 5000 h3;omega);refine aM.bd (hU hg (by omega) _) λi hi=> ?_;refine aM.bd (P:=λl=>l.all isByte=true) ?_ (λl hl=> .mk hl);refine (qx (n:=r.Seen.length) (c:=1100000) hi (λk l hk hl=> ?_) (λl=> ?_)).imp λl hl=>hl.all
 ·have hkl:=c8 1100000 (AS (BY hk) h4);unfold yi;dsimp only;rw [if_pos (by omega),aP hk];obtain ⟨n1,n2,n3⟩:=h.am0 _ (By hk);refine aM.bd (RW hl (by omega) n1 n2 n3) λl1 Bh=> ?_;rw [wrap64 (by omega) (by omega)];exact .mk ⟨l1,rfl,Bh⟩
 ·unfold yi;dsimp only;rw [if_neg (by omega)]
theorem ES {r:b6}(h:ajc r):xc r r=some true:=by obtain ⟨l,hl,hb⟩:=RX h;unfold xc KS;rw [hl,al,if_pos hb];dsimp only;rw [al,if_pos hb,decide_eq_true rfl]
def wi (y:aj):Prop:=y.Value.length<=1100/\y.Names.length<=1000/\ ∀s∈y.Names,s.length<=1000
def Kv (r:au):Prop:= ∀y∈r.Seen,wi y
theorem agP {r:au}(h:iG r)(hs:Kv r):ajc (dV r):=by
 have h1:=h.shelf.len;have h2:=h.book.len;have h3:=h.table.len;have h4:=h.few;refine ⟨?_,λn hn=> ?_,?_,?_,λw hw=> ?_,?_,λy hy=> ?_⟩
 ·show (r.Shelf.L.map toR).length<=1000;rw [sh];omega
 ·obtain ⟨m,hm,rfl⟩:=IT.1 hn;have p1:=(cQ (h.shelf.ord.1 m hm)).1;have p2:=(h.shelf.xC m hm).1;exact ⟨by show m.Path.length<=2000;omega,by show m.Value.length<=2000;omega⟩
 ·show (r.aN.L.map jM).length<=1000;rw [sh];omega
 ·show (r.aR.L.map ol).length<=1000;rw [sh];omega
 ·obtain ⟨m,hm,rfl⟩:=IT.1 hw;have p1:=(cQ (h.table.all m hm).1).1;show m.Path.length<=2000;omega
 ·show (r.Seen.map jR).length<=1000;rw [sh];omega
 ·obtain ⟨m,hm,rfl⟩:=IT.1 hy;obtain ⟨p1,p2,p3⟩:=hs m hm;exact ⟨by show m.Value.length<=2000;omega,p2,p3⟩
theorem X6 {L:List af}(h:fN L)(p:List UInt8):(eo L p).1.Value.length<=1000:=by
 rcases XJ h.ord p with ⟨n,hn,_,he⟩|⟨_,he⟩
 ·rw [he];exact (h.xC n hn).1
 ·rw [he];exact IN _
theorem Ut {L:List af}(h:fN L)(p:List UInt8):(nI L p).1.length<=1000/\ ∀s∈(nI L p).1,s.length<=1000:=by
 have hl:=XH L p;have:=h.len;refine ⟨by omega,λs hs=> ?_⟩;unfold nI at hs;split at hs
 ·rename_i hf;obtain ⟨hp,_⟩:=OM hf;unfold jE at hs;obtain ⟨n,hn,rfl⟩:=IT.1 hs;obtain ⟨KH,GM⟩:=List.mem_filter.1 hn;have:=XD (abU (h.ord.1 n KH) hp GM).1;omega
 ·cases hs
theorem acx {w:ai}(hp:eF w.r)(h:wi w.x):wi (A9 w).x:=by
 have mk: ∀(x:aj) (e v:Int),wi x->wi {x with E:=e,Version:=v}:=λx e v hx=>hx;unfold A9;split
 ·exact h
 split
 ·unfold y9;split
  ·exact h
  ·rw [M3];exact h
 split
 ·exact ⟨AS (X6 hp.shelf w.o.Path) (by omega),h.2⟩
 split
 ·unfold RF M1;split
  ·exact mk _ _ _ (by rw [M3];exact h)
  ·rw [M3];exact h
 split
 ·unfold EQ;rw [M3];exact h
 split
 ·exact ⟨h.1,Ut hp.shelf w.o.Path⟩
 split
 ·exact h
 split
 ·exact h
 split
 ·unfold A8;split<;>exact h
 split
 ·unfold GG;split
  ·rename_i he;obtain ⟨h1,h2,h3,h4,h5,h6⟩:=vB (pZ w.r.aN w.o.Span) (v:=ux w) (mE hp (HF hp.book he));rw [h3];exact h
  ·exact h
 ·exact h
theorem rN (o:aB)(e:Int):wi (cX o e):=⟨IN _,IN _,λs hs=>by cases hs⟩
theorem RY {r:au}(h:iG r)(hn:Kv r)(o:aB):Kv (iH r o).1/\wi (iH r o).2.1:=by
 have Yn:wi (fJ r.Seen o).1:=by
  unfold fJ;split
  ·exact rN o 1
  split
  ·rename_i hl;split
   ·exact hn _ (acs h.inc hl).1
   split
   ·exact rN o 15
   ·exact rN o 0
  ·split
   ·exact rN o 9
   ·exact rN o 0
 unfold iH;cases hk:(fJ r.Seen o).2 with
 |true=>exact ⟨hn,Yn⟩
 |false=>
  rw [if_neg (by decide)];obtain ⟨hm,E5,Bh,sr⟩:=BT hk;have hd:Dc ⟨r,o,(fJ r.Seen o).1,[]⟩ (gZ r o):=V0 (w:=⟨r,o,(fJ r.Seen o).1,[]⟩) h.toeF;have hxc:(gZ r o).x.Client=o.Client:=by rw [hd.dI,E5];rfl
  have hx:wi (gZ r o).x:=acx (w:=⟨r,o,(fJ r.Seen o).1,[]⟩) h.toeF Yn;refine ⟨λy hy=> ?_,hx⟩;rcases (acq h.inc hxc y).1 hy with rfl|⟨hy,_⟩
  ·exact hx
  ·exact hn y hy
theorem RZ (r:au):aM (yd r) λb=>b=true->Kv r:=by
 unfold yd;by_cases h1:(40:Int)<(r.Shelf.L.length:Int)
 ·rw [if_pos h1,al,if_pos rfl];exact .mk (λh=>by cases h)
 rw [if_neg h1];by_cases h2:(40:Int)<(r.aR.L.length:Int)
 ·rw [if_pos h2,al,if_pos rfl];exact .mk (λh=>by cases h)
 rw [if_neg h2];by_cases h3:(60:Int)<(r.aN.L.length:Int)
 ·rw [if_pos h3,al,if_pos rfl];exact .mk (λh=>by cases h)
 rw [if_neg h3];by_cases h4:(60:Int)<(r.Seen.length:Int)
 ·rw [if_pos h4,al,if_pos rfl];exact .mk (λh=>by cases h)
 rw [if_neg h4,al];by_cases h5:(10000000000:Int)<r.aN.ct
 ·rw [decide_eq_true h5,if_pos rfl];exact .mk (λh=>by cases h)
 rw [decide_eq_false h5,if_neg (by decide)];refine aM.bd (P:=λx=>x= .inl ()\/x= .inr false) ?_ ?_
 ·refine aM.count (λk=>(k:Int)) r.Shelf.L.length (λ_=>True) rfl trivial (λk hk _=> ?_) (λ_=> ?_)
  ·unfold sW;rw [if_pos (by omega),aP hk,aP hk];by_cases g1:(200:Int)<(r.Shelf.L[k].Path.length:Int)
   ·rw [if_pos g1,al,if_pos rfl];exact .mk (.inr rfl)
   rw [if_neg g1,al];by_cases g2:(1100:Int)<(r.Shelf.L[k].Value.length:Int)
   ·rw [decide_eq_true g2,if_pos rfl];exact .mk (.inr rfl)
   rw [decide_eq_false g2,if_neg (by decide),wrap64 (by omega) (by omega)];exact .mk ⟨by omega,trivial⟩
  ·unfold sW;rw [if_neg (by omega)];exact .mk (.inl rfl)
 rintro x (rfl|rfl);rotate_left
 ·exact .mk (λh=>by cases h)
 dsimp only;refine aM.bd (P:=λx=>x= .inl ()\/x= .inr false) ?_ ?_
 ·refine aM.count (λk=>(k:Int)) r.aR.L.length (λ_=>True) rfl trivial (λk hk _=> ?_) (λ_=> ?_)
  ·unfold sX;rw [if_pos (by omega),aP hk];by_cases g1:(200:Int)<(r.aR.L[k].Path.length:Int)
   ·rw [if_pos g1];exact .mk (.inr rfl)
   rw [if_neg g1,wrap64 (by omega) (by omega)];exact .mk ⟨by omega,trivial⟩
  ·unfold sX;rw [if_neg (by omega)];exact .mk (.inl rfl)
 rintro x (rfl|rfl);rotate_left
 ·exact .mk (λh=>by cases h)
 dsimp only;refine aM.bd (P:=λx=>(x= .inl ()/\Kv r)\/x= .inr false) ?_ ?_
 ·refine aM.count (λk=>(k:Int)) r.Seen.length (λk=> ∀j (hj:j<r.Seen.length),j<k->wi r.Seen[j]) rfl (λj hj h=>by omega) (λk hk hp=> ?_) (λhp=> ?_)
  ·unfold sZ;rw [if_pos (by omega),aP hk,aP hk];by_cases g1:(1100:Int)<(r.Seen[k].Value.length:Int)
   ·rw [if_pos g1,al,if_pos rfl];exact .mk (.inr rfl)
   rw [if_neg g1,al];by_cases g2:(40:Int)<(r.Seen[k].Names.length:Int)
   ·rw [decide_eq_true g2,if_pos rfl];exact .mk (.inr rfl)
   rw [decide_eq_false g2,if_neg (by decide)];refine aM.bd (P:=λx=>(x= .inl ()/\ ∀s∈r.Seen[k].Names,s.length<=1000)\/x= .inr false) ?_ ?_
   ·refine aM.count (λi=>(i:Int)) r.Seen[k].Names.length (λi=> ∀j (hj:j<r.Seen[k].Names.length),j<i->(r.Seen[k].Names[j]).length<=1000) rfl (λj hj h=>by omega) (λi hi hpi=> ?_) (λhpi=> ?_)
    ·unfold sY;rw [aP hk,if_pos (by omega),aP hk,aP hi];by_cases g3:(200:Int)<(r.Seen[k].Names[i].length:Int)
     ·rw [if_pos g3];exact .mk (.inr rfl)
     rw [if_neg g3,wrap64 (by omega) (by omega)];refine .mk ⟨by omega,λj hj WL=> ?_⟩;by_cases Kz:j=i
     ·subst Kz;omega
     ·exact hpi j hj (by omega)
    ·unfold sY;rw [aP hk,if_neg (by omega)];refine .mk (.inl ⟨rfl,λs hs=> ?_⟩);obtain ⟨j,hj,rfl⟩:=No.1 hs;exact hpi j hj hj
   rintro x (⟨rfl,hn⟩|rfl)
   ·dsimp only;rw [wrap64 (by omega) (by omega)];refine .mk ⟨by omega,λj hj WM=> ?_⟩;by_cases hjj:j=k
    ·subst hjj;exact ⟨by omega,by omega,hn⟩
    ·exact hp j hj (by omega)
   ·exact .mk (.inr rfl)
  ·unfold sZ;rw [if_neg (by omega)];refine .mk (.inl ⟨rfl,λx hx=> ?_⟩);obtain ⟨j,hj,rfl⟩:=No.1 hx;exact hp j hj hj
 rintro x (⟨rfl,hN⟩|rfl)
 ·exact .mk (λ_=>hN)
 ·exact .mk (λh=>by cases h)
theorem afA (l:List bI)(hl:l.length<=1000):tT l=some (l.map VS):=by
 unfold tT;have cV:Loop (pn l) (([]:List bO),0)=some (l.map VS):=by
  refine Kj l VS (λk hk=> ?_) ?_
  ·unfold pn;dsimp only;have:= @xy _ _ VS l k;rw [if_pos (by omega),aP hk,aP hk,if_pos (by simp only [AT,AI];omega),wrap64 (by omega) (by omega)];rfl
  ·unfold pn;dsimp only;rw [if_neg (by omega)]
 rw [cV,al]
theorem X7 {r:au}(h:iG r)(o:aB):(iH r o).2.2.length<=200:=by
 have:=h.table.len;rcases (acn h o).2.2 with h|⟨h,_⟩
 ·omega
 ·rw [h];exact IN _
theorem FV (r:au)(o:aB):mN r o=some true:=by
 unfold mN;obtain ⟨b1,e1,h1⟩:=acp r;obtain ⟨b2,e2,h2⟩:=RZ r;obtain ⟨b3,e3,h3⟩:=Uj [o];rw [e1] at e2;cases e2;rw [e1,al,Ui];cases b1 with
 |false=>rfl
 |true=>
 obtain ⟨hS,_,hN⟩:=h1 rfl;have hT:=h2 rfl;rw [if_neg (by decide),e3,al];cases b3 with
 |false=>rfl
 |true=>
 rw [if_neg (by decide),Kr hS,al];obtain ⟨b4,e4,h4⟩:=RQ hS;rw [e4,al,al];cases b4 with
 |false=>rfl
 |true=>
 have kJ:=h4.1 rfl;have am1:=RH kJ o;obtain ⟨t1,t2⟩:=RY kJ hT o;have H2:=X7 kJ o;rw [if_neg (by decide),al,FU kJ,al,show Hr o=some (tc o) from rfl,al,RV kJ,al,al,if_pos rfl];dsimp only;rw [Kr (RI am1),al,ES (agP am1 t1),al,if_pos rfl,show wR (iH r o).2.1=some (jR (iH r o).2.1) from rfl,al,OX _ (by have:=t2.2.1;omega),al,if_pos rfl,afA _ (by omega),al,OS _ _ (by rw [sh];omega),decide_eq_true rfl,al,if_pos rfl,al,ES (agP kJ hT),al,al]
end Dn.S
