import Derived.Test.YtbkodohojpchjaaGreatDoorDnD
import Derived.Test.YtbkodohojpchjaaGreatDoorDnYT
import Derived.KernelRfl
/-
  One block of sums: the program's rounds are the document's. Conditions: none.
-/
set_option linter.unusedVariables false
set_option linter.unusedSimpArgs false
open Go.IntKind renaming wrap→aQ,bits→AT,signed→IT
open BitVec renaming ofInt→sh,allOnes→No
open Int renaming toNat→AI,toNat_natCast→AS
open Nat renaming le_refl→By
open List renaming drop→BY,take→IN
open Go Dn
namespace Dn.S
theorem Dl {σ τ ρ ρ':Type}{f:σ->Option (Sum σ ρ)}{g:τ->Option (Sum τ ρ')}(R:σ->τ->Prop)(Q:ρ->ρ'->Prop) (μ:σ->Nat)(h: ∀s t,R s t->(∃s' t',f s=some (.inl s')/\g t=some (.inl t')/\R s' t'/\μ s'<μ s)\/(∃r r',f s=some (.inr r)/\g t=some (.inr r')/\Q r r')){s:σ}{t:τ}(hs:R s t): ∃r r',Loop f s=some r/\Loop g t=some r'/\Q r r':=by
 have key: ∀k s t,R s t->μ s<k-> ∃n r r',iter f n s=some r/\iter g n t=some r'/\Q r r':=by
  intro k;induction k with
  |zero=>intro s t _ h;omega
  |succ k ih=>
   intro s t hs hk;rcases h s t hs with ⟨s',t',e1,e2,hr,hm⟩|⟨r,r',e1,e2,hq⟩
   ·obtain ⟨n,r,r',i1,i2,hq⟩:=ih s' t' hr (by omega);exact ⟨n+1,r,r',by simp only [iter,e1];exact i1,by simp only [iter,e2];exact i2,hq⟩
   ·exact ⟨1,r,r',by simp only [iter,e1],by simp only [iter,e2],hq⟩
 obtain ⟨n,r,r',i1,i2,hq⟩:=key _ s t hs (Nat.lt_succ_self _);exact ⟨r,r',ct i1,ct i2,hq⟩
theorem w32 (x:Int):aQ .u32 x=x%4294967296:=by simp [aQ,AT,IT]
theorem ofB (x:BitVec 32):sh 32 (aQ .u32 (x.toNat:Int))=x:=by rw [w32];apply BitVec.eq_of_toNat_eq;have:=x.isLt;simp only [BitVec.toNat_ofInt];omega
theorem SZ (x y:Int):pG .u32 x y=pG .u32 y x:=by unfold pG;rw [BitVec.or_comm]
theorem adq (e f g:Int):bn .u32 g (cH .u32 e (bn .u32 f g))=pG .u32 (cH .u32 e f) (cH .u32 (bn .u32 e 4294967295) g):=by
 have h1:sh 32 (4294967295:Int)=No 32:=by decide
 unfold bn cH pG;show aQ .u32 ((sh 32 g^^^sh 32 (aQ .u32 ((sh 32 e&&&sh 32 (aQ .u32 ((sh 32 f^^^sh 32 g).toNat:Int))).toNat:Int))).toNat:Int)=aQ .u32 ((sh 32 (aQ .u32 ((sh 32 e&&&sh 32 f).toNat:Int))|||sh 32 (aQ .u32 ((sh 32 (aQ .u32 ((sh 32 e^^^sh 32 4294967295).toNat:Int))&&&sh 32 g).toNat:Int))).toNat:Int);rw [ofB,ofB,ofB,ofB,ofB,h1];have:(sh 32 g^^^sh 32 e&&&(sh 32 f^^^sh 32 g))=(sh 32 e&&&sh 32 f|||(sh 32 e^^^No 32)&&&sh 32 g):=by ext i hi;simp only [BitVec.getElem_xor,BitVec.getElem_and,BitVec.getElem_or,BitVec.getElem_allOnes];generalize (sh 32 e)[i]=a;generalize (sh 32 f)[i]=b;generalize (sh 32 g)[i]=c;cases a<;>cases b<;>cases c<;>rfl
 rw [this]
theorem ZC (a b c:Int):bn .u32 (bn .u32 (cH .u32 a b) (cH .u32 a c)) (cH .u32 b c)=pG .u32 (pG .u32 (cH .u32 a b) (cH .u32 a c)) (cH .u32 b c):=by
 unfold bn cH pG;show aQ .u32 ((sh 32 (aQ .u32 ((sh 32 (aQ .u32 ((sh 32 a&&&sh 32 b).toNat:Int))^^^sh 32 (aQ .u32 ((sh 32 a&&&sh 32 c).toNat:Int))).toNat:Int))^^^sh 32 (aQ .u32 ((sh 32 b&&&sh 32 c).toNat:Int))).toNat:Int)=aQ .u32 ((sh 32 (aQ .u32 ((sh 32 (aQ .u32 ((sh 32 a&&&sh 32 b).toNat:Int))|||sh 32 (aQ .u32 ((sh 32 a&&&sh 32 c).toNat:Int))).toNat:Int))|||sh 32 (aQ .u32 ((sh 32 b&&&sh 32 c).toNat:Int))).toNat:Int);simp only [ofB];have:((sh 32 a&&&sh 32 b^^^sh 32 a&&&sh 32 c)^^^sh 32 b&&&sh 32 c)=((sh 32 a&&&sh 32 b|||sh 32 a&&&sh 32 c)|||sh 32 b&&&sh 32 c):=by ext i hi;simp only [BitVec.getElem_xor,BitVec.getElem_and,BitVec.getElem_or];generalize (sh 32 a)[i]=a;generalize (sh 32 b)[i]=b;generalize (sh 32 c)[i]=c;cases a<;>cases b<;>cases c<;>rfl
 rw [this]
def xA (x:Int)(k:Nat):Int:=pG .u32 (Int.fdiv x (2^min k (AT .u32))) (aQ .u32 (x *2^min (AI (aQ .i64 (32-(k:Int)))) (AT .u32)))
theorem fD (x:Int)(k:Nat)(hk:k<=32):bq x (k:Int)=some (xA x k):=by
 have h:(0:Int)<=aQ .i64 (32-(k:Int)):=by rw [cr (by omega) (by omega)];omega
 simp only [bq,if_pos h,if_pos (show (0:Int)<=(k:Int) by omega),AS,xA]
theorem kI (x:Int)(k:Nat)(hk:1<=k/\k<=31):bE x (k:Int)=some (xA x k):=by
 have key: ∀k:Fin 32,1<=k.val->cH .u64 (aQ .u64 (aQ .i64 (0-(k.val:Int)))) 31=32-(k.val:Int):=by decide+kernel
 have e:=key ⟨k,by omega⟩ hk.1;dsimp only at e;unfold bE fT;rw [e];have e2:aQ .u64 (32-(32-(k:Int)))=(k:Int):=by
  have:aQ .u64 (32-(32-(k:Int)))=(32-(32-(k:Int)))%18446744073709551616:=by simp [aQ,AT,IT]
  rw [this];omega
 rw [e2,if_pos (show (0:Int)<=32-(k:Int) by omega),if_pos (show (0:Int)<=(k:Int) by omega)];show some _=some _;rw [SZ,xA,cr (by omega) (by omega)];rfl
theorem V2 (x:Int):bq x 2=some (xA x 2):=fD x 2 (by decide)
theorem V3 (x:Int):bq x 6=some (xA x 6):=fD x 6 (by decide)
theorem V4 (x:Int):bq x 7=some (xA x 7):=fD x 7 (by decide)
theorem S0 (x:Int):bq x 11=some (xA x 11):=fD x 11 (by decide)
theorem S1 (x:Int):bq x 13=some (xA x 13):=fD x 13 (by decide)
theorem S2 (x:Int):bq x 17=some (xA x 17):=fD x 17 (by decide)
theorem S3 (x:Int):bq x 18=some (xA x 18):=fD x 18 (by decide)
theorem S4 (x:Int):bq x 19=some (xA x 19):=fD x 19 (by decide)
theorem S5 (x:Int):bq x 22=some (xA x 22):=fD x 22 (by decide)
theorem S6 (x:Int):bq x 25=some (xA x 25):=fD x 25 (by decide)
theorem adr (x:Int):bE x 2=some (xA x 2):=kI x 2 (by decide)
theorem ads (x:Int):bE x 6=some (xA x 6):=kI x 6 (by decide)
theorem adt (x:Int):bE x 7=some (xA x 7):=kI x 7 (by decide)
theorem ZD (x:Int):bE x 11=some (xA x 11):=kI x 11 (by decide)
theorem ZE (x:Int):bE x 13=some (xA x 13):=kI x 13 (by decide)
theorem ZF (x:Int):bE x 17=some (xA x 17):=kI x 17 (by decide)
theorem ZG (x:Int):bE x 18=some (xA x 18):=kI x 18 (by decide)
theorem ZH (x:Int):bE x 19=some (xA x 19):=kI x 19 (by decide)
theorem ZI (x:Int):bE x 22=some (xA x 22):=kI x 22 (by decide)
theorem ZJ (x:Int):bE x 25=some (xA x 25):=kI x 25 (by decide)
theorem ZK (w:List Int)(i:Nat)(hi:16<=i/\i<64):eM (w,(i:Int))=dP (w,(i:Int))/\ ∃v,dP (w,(i:Int))=some (.inl (w.set i v,((i+1:Nat):Int))):=by
 have e1:aQ .i64 ((i:Int)-15)=(i:Int)-15:=cr (by omega) (by omega);have e2:aQ .i64 ((i:Int)-2)=(i:Int)-2:=cr (by omega) (by omega);have e3:aQ .i64 ((i:Int)-16)=(i:Int)-16:=cr (by omega) (by omega);have e4:aQ .i64 ((i:Int)-7)=(i:Int)-7:=cr (by omega) (by omega);have e5:aQ .i64 ((i:Int)+1)=((i+1:Nat):Int):=by rw [cr (by omega) (by omega)];omega
 simp only [dP,eM,e1,e2,e3,e4,e5,adt,ZG,ZF,ZH,V4,S3,S2,S4,bd,AS];repeat rw [if_pos (by omega)]
 refine ⟨?_,⟨_,rfl⟩⟩;congr 4;simp only [w32];generalize List.getD w (((i:Int)-16).toNat) 0=a;generalize List.getD w (((i:Int)-7).toNat) 0=b;generalize bn .u32 (bn .u32 (xA (w.getD ((i:Int)-2).toNat 0) 17) (xA (w.getD ((i:Int)-2).toNat 0) 19)) _=c;generalize bn .u32 (bn .u32 (xA (w.getD ((i:Int)-15).toNat 0) 7) (xA (w.getD ((i:Int)-15).toNat 0) 18)) _=d;omega
theorem Hs {R:Type}(b:List Int)(i j:Nat)(m:Nat)(hm:b.length<=m)(K:Int->Option R):ix (BY i (IN m b)) (j:Int) K=ix b ((i+j:Nat):Int) K:=by rw [List.take_of_length_le hm];simp only [ix,AS,List.getElem?_drop];rw [if_pos (by omega),if_pos (by omega)]
theorem ZL (b w:List Int)(i:Nat)(hi:i<16)(hb:b.length=64):eL b (w,(i:Int))=dO b (w,(i:Int))/\ ∃v,dO b (w,(i:Int))=some (.inl (w.set i v,((i+1:Nat):Int))):=by
 have e1:aQ .i64 (4 *(i:Int))=((4 *i:Nat):Int):=by rw [cr (by omega) (by omega)];omega
 have e2:aQ .i64 (((4 *i:Nat):Int)+1)=((4 *i+1:Nat):Int):=by rw [cr (by omega) (by omega)];omega
 have e3:aQ .i64 (((4 *i:Nat):Int)+2)=((4 *i+2:Nat):Int):=by rw [cr (by omega) (by omega)];omega
 have e4:aQ .i64 (((4 *i:Nat):Int)+3)=((4 *i+3:Nat):Int):=by rw [cr (by omega) (by omega)];omega
 have e5:aQ .i64 ((i:Int)+1)=((i+1:Nat):Int):=by rw [cr (by omega) (by omega)];omega
 have c0 (K:Int->Option (((List Int)×Int)⊕(List Int))):ix b ((4 *i:Nat):Int) K=K (b[4 *i]'(by omega)):=dQ (by omega) K;have c1 (K:Int->Option (((List Int)×Int)⊕(List Int))):ix b ((4 *i+1:Nat):Int) K=K (b[4 *i+1]'(by omega)):=dQ (by omega) K;have c2 (K:Int->Option (((List Int)×Int)⊕(List Int))):ix b ((4 *i+2:Nat):Int) K=K (b[4 *i+2]'(by omega)):=dQ (by omega) K;have c3 (K:Int->Option (((List Int)×Int)⊕(List Int))):ix b ((4 *i+3:Nat):Int) K=K (b[4 *i+3]'(by omega)):=dQ (by omega) K;have d0 (K:Int->Option Int):ix (BY (4 *i) (IN b.length b)) 0 K=K (b[4 *i]'(by omega)):=by rw [show (0:Int)=((0:Nat):Int) from rfl,Hs _ _ _ _ (By _)];exact dQ (by omega) K
 have d1 (K:Int->Option Int):ix (BY (4 *i) (IN b.length b)) 1 K=K (b[4 *i+1]'(by omega)):=by rw [show (1:Int)=((1:Nat):Int) from rfl,Hs _ _ _ _ (By _)];exact dQ (by omega) K
 have d2 (K:Int->Option Int):ix (BY (4 *i) (IN b.length b)) 2 K=K (b[4 *i+2]'(by omega)):=by rw [show (2:Int)=((2:Nat):Int) from rfl,Hs _ _ _ _ (By _)];exact dQ (by omega) K
 have d3 (K:Int->Option Int):ix (BY (4 *i) (IN b.length b)) 3 K=K (b[4 *i+3]'(by omega)):=by rw [show (3:Int)=((3:Nat):Int) from rfl,Hs _ _ _ _ (By _)];exact dQ (by omega) K
 simp only [dO,eL,e1,e2,e3,e4,e5,c0,c1,c2,c3,wI,AS,d0,d1,d2,d3];repeat rw [if_pos (by omega)]
 simp only [bd];repeat rw [if_pos (by omega)]
 exact ⟨rfl,⟨_,rfl⟩⟩
theorem S7 (b:List Int)(hb:b.length=64): ∃w,ic b=some w/\jG b=some (w,0):=by
 obtain ⟨w,w',h1,h2,rfl,hw⟩:=Dl (f:=dO b) (g:=eL b) (λs t=>s=t/\ ∃i:Nat,s.2=i/\i<=16) (λr r'=>r=r'/\True) (λs=>(16-s.2).toNat) (λs t h=>by
  obtain ⟨rfl,i,hi,KA⟩:=h;obtain ⟨s,j⟩:=s;obtain rfl:j=(i:Int):=hi;by_cases c:i<16
  ·obtain ⟨q,v,e⟩:=ZL b s i c hb;rw [q,e];exact .inl ⟨_,_,rfl,rfl,⟨rfl,i+1,rfl,by omega⟩,by dsimp only;omega⟩
  ·refine .inr ⟨s,s,?_,?_,rfl,trivial⟩
   ·simp only [dO];rw [if_neg (by omega)]
   ·simp only [eL];rw [if_neg (by omega)]) (s:=(zA 62,0)) (t:=(zA 62,0)) ⟨rfl,0,rfl,by omega⟩
 obtain ⟨u,u',g1,g2,rfl,hu⟩:=Dl (f:=dP) (g:=eM) (λs t=>s=t/\ ∃i:Nat,s.2=i/\16<=i/\i<=64) (λr r'=>r=r'/\True) (λs=>(64-s.2).toNat) (λs t h=>by
  obtain ⟨rfl,i,hi,KA⟩:=h;obtain ⟨s,j⟩:=s;obtain rfl:j=(i:Int):=hi;by_cases c:i<64
  ·obtain ⟨q,v,e⟩:=ZK s i ⟨KA.1,c⟩;rw [q,e];exact .inl ⟨_,_,rfl,rfl,⟨rfl,i+1,rfl,by omega⟩,by dsimp only;omega⟩
  ·refine .inr ⟨s,s,?_,?_,rfl,trivial⟩
   ·simp only [dP];rw [if_neg (by omega)]
   ·simp only [eM];rw [if_neg (by omega)]) (s:=(w,16)) (t:=(w,16)) ⟨rfl,16,rfl,by omega⟩
 refine ⟨u,?_,?_⟩
 ·unfold ic;rw [h1];simp only [bd];rw [g1]
 ·unfold jG;rw [h2];simp only [bd];rw [g2];simp [hb]
abbrev Oct:=Int×Int×Int×Int×Int×Int×Int×Int
def ZM (w:Oct):List Int:=[w.1,w.2.1,w.2.2.1,w.2.2.2.1,w.2.2.2.2.1,w.2.2.2.2.2.1,w.2.2.2.2.2.2.1,w.2.2.2.2.2.2.2]
theorem S8 (W C:List Int)(a b c d e f g h:Int)(i:Nat)(hi:i<64): ∃a' e',dF W C (a,b,c,d,e,f,g,h,(i:Int))=some (.inl (a',a,b,c,e',e,f,g,((i+1:Nat):Int)))/\ gE (W,0) C ([a,b,c,d,e,f,g,h],(i:Int))=some (.inl ([a',a,b,c,e',e,f,g],((i+1:Nat):Int))):=by
 have e5:aQ .i64 ((i:Int)+1)=((i+1:Nat):Int):=by rw [cr (by omega) (by omega)];omega
 have p64:(0:Int)<=(i:Int)/\(i:Int)<64:=by omega
 have p:(i:Int)<64:=by omega
 simp only [dF,gE,if_pos p,if_pos p64,e5,ads,ZD,ZJ,adr,ZE,ZI,V3,S0,S6,V2,S1,S5,bd,adq,ZC];refine ⟨_,_,rfl,?_⟩;rfl
theorem O0 (W C:List Int)(a b c d e f g h:Int): ∃w:Oct,Loop (dF W C) (a,b,c,d,e,f,g,h,0)=some w/\Loop (gE (W,0) C) ([a,b,c,d,e,f,g,h],0)=some (ZM w):=by
 obtain ⟨w,w',h1,h2,rfl⟩:=Dl (f:=dF W C) (g:=gE (W,0) C) (λs t=> ∃(a b c d e f g h:Int) (i:Nat),i<=64/\s=(a,b,c,d,e,f,g,h,(i:Int))/\t=([a,b,c,d,e,f,g,h],(i:Int))) (λr r'=>r'=ZM r) (λs=>(64-s.2.2.2.2.2.2.2.2).toNat) (λs t hR=>by
   obtain ⟨a,b,c,d,e,f,g,h,i,hi,rfl,rfl⟩:=hR;by_cases hc:i<64
   ·obtain ⟨a',e',q1,q2⟩:=S8 W C a b c d e f g h i hc;exact .inl ⟨_,_,q1,q2,⟨a',a,b,c,e',e,f,g,i+1,hc,rfl,rfl⟩,by dsimp only;omega⟩
   ·refine .inr ⟨(a,b,c,d,e,f,g,h),[a,b,c,d,e,f,g,h],?_,?_,rfl⟩
    ·simp only [dF];rw [if_neg (by omega)]
    ·simp only [gE];rw [if_neg (by omega)]) (s:=(a,b,c,d,e,f,g,h,0)) (t:=([a,b,c,d,e,f,g,h],0)) ⟨a,b,c,d,e,f,g,h,0,by omega,rfl,rfl⟩
 exact ⟨w,h1,h2⟩
theorem V5 (a0 a1 a2 a3 a4 a5 a6 a7 b0 b1 b2 b3 b4 b5 b6 b7:Int):Loop (sL (b0,b1,b2,b3,b4,b5,b6,b7)) (0,[a0,a1,a2,a3,a4,a5,a6,a7])= some [aQ .u32 (a0+b0),aQ .u32 (a1+b1),aQ .u32 (a2+b2),aQ .u32 (a3+b3),aQ .u32 (a4+b4),aQ .u32 (a5+b5),aQ .u32 (a6+b6),aQ .u32 (a7+b7)]:=ct (n:=9) (by kernel_rfl)
theorem S9 (l:List Int)(n:Int)(a0 a1 a2 a3 a4 a5 a6 a7 b0 b1 b2 b3 b4 b5 b6 b7:Int):Loop (qj (b0,b1,b2,b3,b4,b5,b6,b7)) (0,[a0,a1,a2,a3,a4,a5,a6,a7],l,n)= some ([aQ .u32 (a0+b0),aQ .u32 (a1+b1),aQ .u32 (a2+b2),aQ .u32 (a3+b3),aQ .u32 (a4+b4),aQ .u32 (a5+b5),aQ .u32 (a6+b6),aQ .u32 (a7+b7)],l,n):=ct (n:=9) (by kernel_rfl)
theorem V6 (a0 a1 a2 a3 a4 a5 a6 a7 b0 b1 b2 b3 b4 b5 b6 b7:Int):Loop (sK [a0,a1,a2,a3,a4,a5,a6,a7]) ([b0,b1,b2,b3,b4,b5,b6,b7],0)= some [aQ .u32 (b0+a0),aQ .u32 (b1+a1),aQ .u32 (b2+a2),aQ .u32 (b3+a3),aQ .u32 (b4+a4),aQ .u32 (b5+a5),aQ .u32 (b6+a6),aQ .u32 (b7+a7)]:=ct (n:=9) (by kernel_rfl)
theorem olr:qi=dF:=rfl
def wd (a:List Int):Prop:=a.length=8/\ ∀x∈a,0<=x/\x<4294967296
theorem Ta {a x:List Int}(ha:a.length=8)(hx:x.length=64): ∃s,wd s/\kp a x=some (s,0)/\lP a x=some ((),s)/\ ∀left long,kr ⟨a,left,long⟩ x=some ((),⟨s,left,long⟩):=by
 obtain ⟨W,hw1,hw2⟩:=S7 x hx;obtain ⟨a0,a1,a2,a3,a4,a5,a6,a7,rfl⟩: ∃a0 a1 a2 a3 a4 a5 a6 a7,a=[a0,a1,a2,a3,a4,a5,a6,a7]:=by
  match a,ha with
  |[a0,a1,a2,a3,a4,a5,a6,a7],_=>exact ⟨a0,a1,a2,a3,a4,a5,a6,a7,rfl⟩
 obtain ⟨C,hC⟩: ∃C,pc=some C:=⟨_,rfl⟩
 have hC':qh=some C:=hC;obtain ⟨⟨b0,b1,b2,b3,b4,b5,b6,b7⟩,g1,g2⟩:=O0 W C a0 a1 a2 a3 a4 a5 a6 a7;refine ⟨[aQ .u32 (a0+b0),aQ .u32 (a1+b1),aQ .u32 (a2+b2),aQ .u32 (a3+b3),aQ .u32 (a4+b4),aQ .u32 (a5+b5),aQ .u32 (a6+b6),aQ .u32 (a7+b7)],⟨rfl,?_⟩,?_,?_,?_⟩
 ·intro y hy;simp only [w32,List.mem_cons,List.not_mem_nil,or_false] at hy;omega
 ·unfold kp;rw [hw2];simp only [bd];rw [hC'];simp only [bd,g2,ZM,V6,Int.add_comm];simp
 ·unfold lP;rw [hw1];simp only [bd];rw [hC];dsimp only;iterate 8 rw [if_pos (by decide)]
  have g1':=g1;change Loop (dF W C) ([a0,a1,a2,a3,a4,a5,a6,a7].getD (AI 0) 0,[a0,a1,a2,a3,a4,a5,a6,a7].getD (AI 1) 0,[a0,a1,a2,a3,a4,a5,a6,a7].getD (AI 2) 0,[a0,a1,a2,a3,a4,a5,a6,a7].getD (AI 3) 0,[a0,a1,a2,a3,a4,a5,a6,a7].getD (AI 4) 0,[a0,a1,a2,a3,a4,a5,a6,a7].getD (AI 5) 0,[a0,a1,a2,a3,a4,a5,a6,a7].getD (AI 6) 0,[a0,a1,a2,a3,a4,a5,a6,a7].getD (AI 7) 0,0)=_ at g1';rw [g1'];simp only [V5]
 ·intro left long;unfold kr;rw [hw1];simp only [bd];rw [hC,olr];dsimp only;iterate 8 rw [if_pos (by decide)]
  have g1':=g1;change Loop (dF W C) ([a0,a1,a2,a3,a4,a5,a6,a7].getD (AI 0) 0,[a0,a1,a2,a3,a4,a5,a6,a7].getD (AI 1) 0,[a0,a1,a2,a3,a4,a5,a6,a7].getD (AI 2) 0,[a0,a1,a2,a3,a4,a5,a6,a7].getD (AI 3) 0,[a0,a1,a2,a3,a4,a5,a6,a7].getD (AI 4) 0,[a0,a1,a2,a3,a4,a5,a6,a7].getD (AI 5) 0,[a0,a1,a2,a3,a4,a5,a6,a7].getD (AI 6) 0,[a0,a1,a2,a3,a4,a5,a6,a7].getD (AI 7) 0,0)=_ at g1';rw [g1'];simp only [S9]
end Dn.S
