import Derived.Test.YtbkodohojpchjaaGreatDoorDnPSha
/-
  Sums: the program's, piece by piece, is the document's, all at once. Conditions: none.
-/
set_option linter.unusedVariables false
set_option linter.unusedSimpArgs false
open Go.IntKind renaming wrap→aQ,bits→aag
open List renaming length_drop→sh,replicate→AI,length_cons→AT,length_append→By,length_replicate→IN,length_nil→No,take_of_length_le→OF,length_take→aaa,drop_append_of_le_length→aab,nil_append→aac,drop_drop→aad,drop→aae,take→aaf
open Int renaming toNat_natCast→AS,tmod_eq_emod_of_nonneg→BY,toNat→IT,tmod→aah
open Nat renaming le_refl→aai
open Go Dn
namespace Dn.S
noncomputable section
theorem adv {σ ρ:Type}{body:σ->Option (Sum σ ρ)}{s:σ}{r:ρ}(h:Loop body s=some r): ∃n,iter body n s=some r:=by
 unfold Loop lm at h;split at h
 ·rename_i r' hr;exact ⟨0,by rw [hr];exact h⟩
 ·split at h
  ·rename_i he;obtain ⟨n,hn⟩:=Classical.choose_spec he;injection h with h;exact ⟨n,by rw [<-h];exact hn⟩
  ·cases h
theorem O1 {σ ρ:Type}{body:σ->Option (Sum σ ρ)}{s:σ}{r:ρ}(h:body s=some (.inr r)):Loop body s=some r:=ct (n:=1) (by simp only [iter,h])
theorem pF {σ ρ:Type}{body:σ->Option (Sum σ ρ)} {s s':σ}{r:ρ}(h:body s=some (.inl s'))(h2:Loop body s'=some r):Loop body s=some r:=by obtain ⟨n,hn⟩:=adv h2;exact ct (n:=n+1) (by simp only [iter,h];exact hn)
def aA (a x:List Int):List Int:=match kp a x with|some (s,_)=>s|none=>a
theorem Ht {a x:List Int}(ha:a.length=8)(hx:x.length=64):wd (aA a x)/\kp a x=some (aA a x,0)/\lP a x=some ((),aA a x)/\ ∀left long,kr ⟨a,left,long⟩ x=some ((),⟨aA a x,left,long⟩):=by
 obtain ⟨s,h1,h2,h3,h4⟩:=Ta ha hx;have e:aA a x=s:=by unfold aA;rw [h2]
 rw [e];exact ⟨h1,h2,h3,h4⟩
def vI:Nat->List Int->List Int->List Int
 |0,a,_=>a
 |n+1,a,x=>vI n (aA a (x.take 64)) (x.drop 64)
theorem Aq: ∀(n:Nat) (a x:List Int),a.length=8->64 *n<=x.length->(vI n a x).length=8/\(0<n->wd (vI n a x))
 |0,a,x,ha,_=>⟨ha,λh=>absurd h (by omega)⟩
 |n+1,a,x,ha,hx=>by
  have hw:=(Ht ha (x:=x.take 64) (by rw [aaa];omega)).1;obtain ⟨h1,h2⟩:=Aq n (aA a (x.take 64)) (x.drop 64) hw.1 (by rw [sh];omega);refine ⟨h1,λ_=> ?_⟩;cases n with
  |zero=>exact hw
  |succ n=>exact h2 (by omega)
theorem M5: ∀(k j:Nat) (a x:List Int),vI (k+j) a x=vI j (vI k a x) (x.drop (64 *k))
 |0,j,a,x=>by simp [vI]
 |k+1,j,a,x=>by rw [show k+1+j=(k+j)+1 by omega];show vI (k+j) (aA a (x.take 64)) (x.drop 64)=vI j (vI k (aA a (x.take 64)) (x.drop 64)) (x.drop (64 *(k+1)));rw [M5 k j,aad];congr 2;omega
theorem M6: ∀(k:Nat) (a b p:List Int),64 *k<=b.length->vI k a (b++p)=vI k a b
 |0,a,b,p,_=>rfl
 |k+1,a,b,p,h=>by show vI k (aA a ((b++p).take 64)) ((b++p).drop 64)=vI k (aA a (b.take 64)) (b.drop 64);rw [List.take_append_of_le_length (by omega),aab (by omega),M6 k _ _ _ (by rw [sh];omega)]
theorem Xt {b p:List Int}{m:Nat}(hT:(([]++b)++p).length=64 *m)(hm:64 *m<2^50): ∀(d i:Nat) (a:List Int),i+d=m->a.length=8->Loop (kq b p) (a,((64 *i:Nat):Int))=some (vI d a ((([]++b)++p).drop (64 *i)))
 |0,i,a,hi,ha=>by
  obtain rfl:i=m:=by omega
  refine O1 ?_;unfold kq;rw [if_neg (by dsimp only;rw [hT];omega)];rfl
 |d+1,i,a,hi,ha=>by
  have hx:(((([]:List Int)++b)++p).drop (64 *i)).length=64 *(d+1):=by rw [sh,hT];omega
  have e1:aQ .i64 (((64 *i:Nat):Int)+64)=((64 *(i+1):Nat):Int):=by rw [cr (by omega) (by omega)];omega
  have hk:=Ht ha (x:=((([]++b)++p).drop (64 *i)).take 64) (by rw [aaa];omega);have ex:aae (IT ((64 *i:Nat):Int)) (aaf (IT ((64 *(i+1):Nat):Int)) ((([]:List Int)++b)++p))=((([]++b)++p).drop (64 *i)).take 64:=by rw [AS,AS,List.drop_take];congr 1;omega
  refine pF (s':=(aA a (((([]++b)++p).drop (64 *i)).take 64),((64 *(i+1):Nat):Int))) ?_ ?_
  ·unfold kq;rw [if_pos (by dsimp only;rw [hT];omega)];dsimp only;rw [e1,if_pos (by rw [hT];omega),ex,hk.2.1];rfl
  ·rw [Xt hT hm d (i+1) _ (by omega) hk.1.1];show some (vI d _ _)=some (vI d _ _);rw [aad];congr 3
theorem adw: ∀(k:Nat) (a l:List Int) (n:Int),l.length/64=k->l.length<2^50->a.length=8->Loop eN (a,l,n)=some (vI k a l,l.drop (64 *k),n)
 |0,a,l,n,hk,hl,ha=>by refine O1 ?_;unfold eN;rw [if_neg (by dsimp only;omega)];simp [vI]
 |k+1,a,l,n,hk,hl,ha=>by
  have h:=Ht ha (x:=l.take 64) (by rw [aaa];omega);have e1:aae (IT 0) (aaf (IT 64) l)=l.take 64:=by simp
  have e2:aae (IT 64) (aaf (IT (l.length:Int)) l)=l.drop 64:=by rw [AS,OF (aai _)];rfl
  refine pF (s':=(aA a (l.take 64),l.drop 64,n)) ?_ ?_
  ·unfold eN;dsimp only;rw [if_pos (by omega),if_pos (by omega),e1,h.2.2.2];simp only [bd];rw [if_pos (by omega),e2]
  ·rw [adw k _ _ _ (by rw [sh];omega) (by rw [sh];omega) h.1.1];show some (vI k _ _,_,_)=some (vI k _ _,_,_);rw [aad,show 64+64 *k=64 *(k+1) by omega]
theorem adx: ∀(m:Nat) (a l:List Int),l.length=64 *m->m<2^50->a.length=8->Loop gJ (a,l)=some (vI m a l)
 |0,a,l,hl,hm,ha=>by refine O1 ?_;unfold gJ;rw [if_neg (by dsimp only;omega)];rfl
 |m+1,a,l,hl,hm,ha=>by
  have h:=Ht ha (x:=l.take 64) (by rw [aaa];omega);have e1:aae (IT 0) (aaf (IT 64) l)=l.take 64:=by simp
  have e2:aae (IT 64) (aaf (IT (l.length:Int)) l)=l.drop 64:=by rw [AS,OF (aai _)];rfl
  refine pF (s':=(aA a (l.take 64),l.drop 64)) ?_ ?_
  ·unfold gJ;dsimp only;rw [if_pos (by omega),if_pos (by omega),e1,h.2.2.1];simp only [bd];rw [if_pos (by omega),e2]
  ·rw [adx m _ _ (by rw [sh];omega) (by omega) h.1.1];rfl
def HE (q:Int):Nat->List Int
 |0=>[]
 |k+1=>aQ .u8 (Int.fdiv q (2^min (8 *k) (aag .u64)))::HE q k
theorem jS (q:Int): ∀k,(HE q k).length=k
 |0=>rfl
 |k+1=>by simp [HE,jS q k]
theorem Tb (q:Int): ∀(k:Nat) (o:List Int),k<=8->o.length+k<2^46->Loop (kn q) (o,(k:Int)-1)=some (o++HE q k)
 |0,o,_,_=>by refine O1 ?_;unfold kn;rw [if_neg (by dsimp only;omega)];simp [HE]
 |k+1,o,hk,ho=>by
  have e1:((k+1:Nat):Int)-1=(k:Int):=by omega
  have e2:aQ .i64 (8 *(k:Int))=((8 *k:Nat):Int):=by rw [cr (by omega) (by omega)];omega
  have e3:aQ .i64 ((k:Int)-1)=(k:Int)-1:=cr (by omega) (by omega);rw [e1];refine pF (s':=(o++[aQ .u8 (Int.fdiv q (2^min (8 *k) (aag .u64)))],(k:Int)-1)) ?_ ?_
  ·unfold kn;dsimp only;rw [e2,e3,AS,if_pos (by omega),if_pos (by omega),if_pos (by simp only [AT,No];omega)]
  ·rw [Tb q k _ (by omega) (by simp only [By,AT,No];omega)];simp [HE]
theorem M7 (q:Int)(k:Nat)(o:List Int)(hk:k<=8)(ho:o.length+k<2^46):pe o q (k:Int)=some (o++HE q k):=by unfold pe;rw [cr (x:=(k:Int)-1) (by omega) (by omega),Tb q k o hk ho];rfl
def vO (n:Nat):Nat:=(119-n%64)%64
def lng (n:Nat):Int:=aQ .u64 ((aQ .u64 (imax (n:Int) 0)) *8)
def lM (n:Nat):List Int:=(128::AI (vO n) 0)++HE (lng n) 8
theorem Dm (n:Nat):(lM n).length=9+vO n:=by simp [lM,jS];omega
theorem M8 (n:Nat):(n+(lM n).length)%64=0:=by rw [Dm];unfold vO;omega
theorem xr (n:Nat):imax (n:Int) 0=(n:Int):=by unfold imax;rw [if_neg (by omega)]
theorem O2 (n:Nat)(hn:n<2^50):wJ (n:Int)=some (lM n):=by
 have e0:aah (n:Int) 64=((n%64:Nat):Int):=by rw [BY (by omega)];omega
 have e1:aQ .i64 (119-((n%64:Nat):Int))=((119-n%64:Nat):Int):=by rw [cr (by omega) (by omega)];omega
 have e2:aah ((119-n%64:Nat):Int) 64=((vO n:Nat):Int):=by rw [BY (by omega)];unfold vO;omega
 have hz:vO n<64:=by unfold vO;omega
 have e3:aQ .i64 (1+((vO n:Nat):Int))=((vO n+1:Nat):Int):=by rw [cr (by omega) (by omega)];omega
 have e4:aQ .i64 (((vO n+1:Nat):Int)+8)=((vO n+9:Nat):Int):=by rw [cr (by omega) (by omega)];omega
 have eq:aQ .u64 (aQ .u64 (n:Int) *8)=lng n:=by rw [lng,xr]
 unfold wJ;rw [xr,e0,e1,e2,e3,e4,eq,if_pos (by decide),if_pos (by decide),if_pos (by omega)];rw [AS,Ap (by simp)];rw [show (AI (vO n+1) (0:Int)).set (IT 0) 128=128::AI (vO n) 0 from rfl];rw [show (8:Int)=((8:Nat):Int) from rfl,M7 (lng n) 8 _ (by omega) (by simp only [AT,IN];omega)];rfl
theorem JO (n:Nat)(hn:n<2^50): ∀(d j:Nat),j+d=vO n->Loop (pf (n:Int)) (128::AI j 0)=some (128::AI (vO n) 0)
 |0,j,hj=>by
  obtain rfl:j=vO n:=by omega
  refine O1 ?_;have hz:vO n<64:=by unfold vO;omega
  have e:aah (aQ .i64 (aQ .i64 ((n:Int)+(((128:Int)::AI (vO n) 0).length:Int))+8)) 64=0:=by simp only [AT,IN];rw [cr (x:=(n:Int)+_) (by omega) (by omega),cr (by omega) (by omega),BY (by omega)];unfold vO;omega
  unfold pf;rw [xr,e,if_pos (by decide),if_neg (by decide)]
 |d+1,j,hj=>by
  have hz:vO n<64:=by unfold vO;omega
  have e: ¬aah (aQ .i64 (aQ .i64 ((n:Int)+(((128:Int)::AI j 0).length:Int))+8)) 64=0:=by simp only [AT,IN];rw [cr (x:=(n:Int)+_) (by omega) (by omega),cr (by omega) (by omega),BY (by omega)];unfold vO at *;omega
  refine pF (s':=128::AI (j+1) 0) ?_ (JO n hn d (j+1) (by omega));unfold pf;rw [xr,if_pos (by decide),if_pos (by simpa using e),if_pos (by simp only [AT,IN,No];omega)];rw [List.replicate_succ'];rfl
theorem O3 (n:Nat)(hn:n<2^50):wK (n:Int)=some (lM n):=by
 unfold wK;rw [show ([128]:List Int)=128::AI 0 0 from rfl,JO n hn (vO n) 0 (by omega)];simp only [bd];have hz:vO n<64:=by unfold vO;omega
 rw [show xZ (n:Int)=kn (lng n) from rfl,show (7:Int)=((8:Nat):Int)-1 from rfl,Tb (lng n) 8 _ (by omega) (by simp only [AT,IN];omega)];rfl
def LG (w:List Int):List Int:=HE (w.getD 0 0) 4++(HE (w.getD 1 0) 4++(HE (w.getD 2 0) 4++(HE (w.getD 3 0) 4++(HE (w.getD 4 0) 4++(HE (w.getD 5 0) 4++(HE (w.getD 6 0) 4++HE (w.getD 7 0) 4))))))
theorem JP (w:List Int):(LG w).length=32:=by simp [LG,jS]
theorem V7 (b0 b1 b2 b3 b4 b5 b6 b7:Int):Loop (lO [b0,b1,b2,b3,b4,b5,b6,b7]) (zA 30,0)=some (LG [b0,b1,b2,b3,b4,b5,b6,b7]):=ct (n:=33) (by kernel_rfl)
theorem ag4 {x:Int}(h:0<=x/\x<4294967296):aQ .u64 x=x:=by
 have:aQ .u64 x=x%18446744073709551616:=by simp [aQ,aag,IntKind.signed]
 rw [this];omega
theorem V8 {w:List Int}(hw:wd w):Loop (eO w) ([],0)=some (LG w):=by
 have g (i:Nat):aQ .u64 (w.getD i 0)=w.getD i 0:=by
  rw [List.getD_eq_getElem?_getD];cases h:w[i]? with
  |none=>rfl
  |some y=>exact ag4 (hw.2 y (List.mem_of_getElem? h))
 have st (i:Nat) (hi:i<8) (o:List Int) (ho:o.length<=32):eO w (o,(i:Int))=some (.inl (o++HE (w.getD i 0) 4,((i+1:Nat):Int))):=by
  have e5:aQ .i64 ((i:Int)+1)=((i+1:Nat):Int):=by rw [cr (by omega) (by omega)];omega
  unfold eO;dsimp only;rw [if_pos (by omega),if_pos (by omega),AS,g,show (4:Int)=((4:Nat):Int) from rfl,M7 _ 4 _ (by omega) (by omega),e5];rfl
 have l (o:List Int) (x:Int) (h:o.length+4<=32):(o++HE x 4).length<=32:=by rw [By,jS];exact h
 refine pF (st 0 (by omega) [] (by simp)) ?_;refine pF (st 1 (by omega) _ (by simp [jS])) ?_;refine pF (st 2 (by omega) _ (by simp [jS])) ?_;refine pF (st 3 (by omega) _ (by simp [jS])) ?_;refine pF (st 4 (by omega) _ (by simp [jS])) ?_;refine pF (st 5 (by omega) _ (by simp [jS])) ?_;refine pF (st 6 (by omega) _ (by simp [jS])) ?_;refine pF (st 7 (by omega) _ (by simp [jS])) ?_;refine O1 ?_;unfold eO;rw [if_neg (by dsimp only;omega)];simp only [LG,List.append_assoc,aac]
def gO:List Int:=[1779033703,3144134277,1013904242,2773480762,1359893119,2600822924,528734635,1541459225]
def Tc (b:List Int):List Int:=LG (vI ((b.length+(lM b.length).length)/64) gO (b++lM b.length))
theorem Td {w:List Int}(h:w.length=8):Loop (lO w) (zA 30,0)=some (LG w):=by
 match w,h with
 |[b0,b1,b2,b3,b4,b5,b6,b7],_=>exact V7 b0 b1 b2 b3 b4 b5 b6 b7
theorem O4 {b:List Int}(hb:b.length<2^45):wL b=some (Tc b):=by
 have hz:vO b.length<64:=by unfold vO;omega
 have hp:=Dm b.length;have hm:=M8 b.length;unfold Tc;obtain ⟨m,hM⟩: ∃m,(b.length+(lM b.length).length)/64=m:=⟨_,rfl⟩
 rw [hM];have hT:((([]:List Int)++b)++lM b.length).length=64 *m:=by simp only [aac,By];omega
 have hL:Loop (kq b (lM b.length)) (gO,0)=some (vI m gO (b++lM b.length)):=Xt hT (by omega) m 0 gO (by omega) rfl;have hw:wd (vI m gO (b++lM b.length)):=(Aq m gO _ rfl (by simp only [By];omega)).2 (by omega);have hO:=Td hw.1;have h1:(([]:List Int).length+b.length) *1<=2^46:=by simp only [No];omega
 have h2:((([]:List Int)++b).length+(lM b.length).length) *1<=2^46:=by simp only [aac];omega
 unfold wL;rw [if_pos h1,O3 _ (by omega)];show (if ((([]:List Int)++b).length+(lM b.length).length) *1<=2^46 then bd (Loop (kq b (lM b.length)) (gO,0)) λw=>bd (Loop (lO w) (zA 30,0)) λw1=>some w1 else none)=_;rw [if_pos h2,hL];show bd (Loop (lO (vI m gO (b++lM b.length))) (zA 30,0)) _=_;rw [hO];rfl
theorem O5 {b:List Int}(hb:b.length<2^45):wM b=some (Tc b):=by
 have hz:vO b.length<64:=by unfold vO;omega
 have hp:=Dm b.length;have hm:=M8 b.length;have hk:64 *(b.length/64)<=b.length:=by omega
 have h1:=Aq (b.length/64) gO b rfl hk;have hW:gG ⟨gO,[],0⟩ b=some ((),⟨vI (b.length/64) gO b,b.drop (64 *(b.length/64)),(b.length:Int)⟩):=by unfold gG;rw [if_pos (by simp only [No];omega)];dsimp only;rw [cr (x:=0+(b.length:Int)) (by omega) (by omega),aac,Int.zero_add,adw (b.length/64) gO b _ rfl (by omega) rfl];rfl
 unfold wM;rw [show tU=some gO from rfl];simp only [bd];rw [hW];simp only [bd];have hM: ∃j,(b.length+(lM b.length).length)/64=b.length/64+j/\(b.drop (64 *(b.length/64))++lM b.length).length=64 *j/\0<j:=⟨(b.length+(lM b.length).length)/64-b.length/64,by omega,by rw [By,sh];omega,by omega⟩
 obtain ⟨j,hj,DG,hj0⟩:=hM;have e:vI j (vI (b.length/64) gO b) (b.drop (64 *(b.length/64))++lM b.length)=vI ((b.length+(lM b.length).length)/64) gO (b++lM b.length):=by rw [hj,M5,M6 _ _ _ _ hk,aab hk]
 have hw:wd (vI ((b.length+(lM b.length).length)/64) gO (b++lM b.length)):=(Aq _ gO _ rfl (by simp only [By];omega)).2 (by omega);unfold lE;dsimp only;rw [if_pos ⟨rfl,rfl⟩,O2 _ (by omega)];simp only [bd];rw [if_pos ⟨by omega,by rw [sh];omega⟩,adx j _ _ DG (by omega) h1.1,e];dsimp only;rw [V8 hw];dsimp only;rw [if_pos (by rw [JP];omega),OF (by rw [JP];omega)];rfl
end
end Dn.S
