import Derived.Test.YtbkodohojpchjaaGreatDoorDnPPath2
/-
  Paths: what the document says; PathTells. Conditions: none.
-/
set_option linter.unusedVariables false
set_option linter.unusedSimpArgs false
open List renaming getD_eq_getElem?_getD→c9,getElem?_eq_getElem→sh,flatMap_append→AS,length_append→AT,getElem_append_right→BY,getElem_mem→IN,length_cons→IS,length_nil→IT,take_append_drop→No,dropLast_eq_take→OF,length_drop→aas,drop_zero→aaJ
open Bool renaming false_eq_true→AI,not_true→By
open Option.some renaming injEq→aaq
open Int renaming toNat_natCast→aar,toNat_zero→aaF
open Go Dn
namespace Dn.S
theorem rM (p:List UInt8):jZ p=some (bA p):=by
 unfold jZ;by_cases hl:p.length<=100;rotate_left
 ·rw [if_pos (by omega)];simp [bA,hl]
 rw [if_neg (by omega),MI p (by omega),av];have hle: ∀y∈(if lQ p then aH p else []),y.length<=100:=by
  intro y hy;split at hy
  ·unfold aH at hy;split at hy
   ·simp at hy
   ·have:=Re _ y hy;rw [aas] at this;omega
  ·simp at hy
 have hlen:(if lQ p then aH p else []).length<=101:=by
  split
  ·unfold aH;split
   ·simp
   ·have:=yK (c:=47) (p.drop 1);rw [aas] at this;omega
  ·simp
 generalize hL:(if lQ p then aH p else [])=L at hle hlen;obtain ⟨r,e,hr⟩:=EA (body:=q8 (L,lQ p)) L.length (λk=>gV (L.getD k [])=true) false (λk hk _=>by
  have hg:L.getD k []=L[k]:=by rw [c9,sh hk];rfl
  unfold q8;dsimp only;rw [if_pos (by omega),ba hk,Oz _ (by have:=hle _ (IN hk);omega),av,hg];constructor
  ·intro h;rw [h];simp only [By,AI,if_false];rw [wrap64 (by omega) (by omega)];rfl
  ·intro h;rw [Bool.not_eq_true] at h;rw [h];rfl) (by
  unfold q8;dsimp only;rw [if_neg (by omega)])
 rw [e,av];have nm:(∀k,k<L.length->gV (L.getD k [])=true)↔L.all gV=true:=by
  rw [List.all_eq_true];constructor
  ·intro h x hx;obtain ⟨k,hk,rfl⟩:=List.mem_iff_getElem.1 hx;have:=h k hk;rwa [c9,sh hk] at this
  ·intro h k hk;rw [c9,sh hk];exact h _ (IN hk)
 unfold bA;cases ha:lQ p with
 |false=>rcases hr with ⟨rfl,h⟩|⟨rfl,k,hk,h⟩<;>simp [av]
 |true=>
  rw [ha] at hL;simp only [if_true] at hL;rw [hL];rcases hr with ⟨rfl,h⟩|⟨rfl,k,hk,h⟩
  ·have h:=nm.1 h;simp only [if_true,av,Gz,h,hl,decide_true,Bool.and_true,Bool.true_and,aaq,decide_eq_decide];omega
  ·have:L.all gV=false:=by rw [Bool.eq_false_iff];intro hh;exact h (nm.2 hh k hk)
   simp [this]
theorem cR {p:List UInt8}(h:bA p=true):p.length<=100/\lQ p=true/\(aH p).length<=8/\(aH p).all gV=true:=by unfold bA at h;simp only [Bool.and_eq_true,decide_eq_true_eq] at h;exact ⟨h.1.2,h.1.1,h.2.1,h.2.2⟩
theorem vv (p:List UInt8):ot p=some (if bA p then (aH p,0) else ([],13)):=by
 unfold ot;rw [rM,av];cases h:bA p with
 |false=>simp
 |true=>obtain ⟨h1,h2,_⟩:=cR h;simp only [By,AI,if_false,if_true];rw [MI p (by omega),av,h2];rfl
def lM (l:List (List UInt8)):List UInt8:=if l=[] then [47] else l.flatMap (47::·)
theorem aeO (l:List (List UInt8))(h1:(l.flatMap ((47:UInt8)::·)).length<=2^40)(h2:l.length<2^60):z1 l=some (lM l):=by
 have cw:Loop (tm l) (([]:List UInt8),0)=some (l.flatMap ((47:UInt8)::·)):=by
  refine aO.eq (aO.count (λk=>((l.take k).flatMap ((47:UInt8)::·),(k:Int))) l.length (λ_=>True) rfl trivial (λk hk _=> ?_) (λ_=> ?_))
  ·unfold tm;dsimp only;have hsp:(l.take (k+1)).flatMap ((47:UInt8)::·)=(l.take k).flatMap ((47:UInt8)::·)++[47]++l[k]:=by rw [take_succ hk,AS];simp
   have amC:((l.take (k+1)).flatMap ((47:UInt8)::·)).length<=(l.flatMap ((47:UInt8)::·)).length:=by
    have:l.flatMap ((47:UInt8)::·)=(l.take (k+1)).flatMap ((47:UInt8)::·)++(l.drop (k+1)).flatMap ((47:UInt8)::·):=by rw [<-AS,No]
    rw [this,AT];omega
   rw [hsp] at amC;simp only [AT,IS,IT] at amC;rw [if_pos (by omega),if_pos (by simp only [IS,IT];omega),ba hk,if_pos (by simp only [AT,IS,IT];omega),wrap64 (by omega) (by omega)];refine .mk ⟨?_,trivial⟩;rw [hsp];rfl
  ·unfold tm;dsimp only;rw [if_neg (by omega),List.take_length];exact .mk rfl
 unfold z1;rw [cw,av];unfold lM;cases l with
 |nil=>rfl
 |cons a l=>simp
theorem OC {a b:List UInt8}(hb:(47:UInt8)∉b)(hl:(a++47::b).length<2^60):jq (a++47::b) ([47]:List UInt8)=some (a.length:Int):=by
 have cw:Loop (eE (a++47::b) 47) (((a++47::b).length-1:Nat):Int)=some (.inr (a.length:Int)):=by
  refine aO.eq (aO.loop (λst=> ∃i:Nat,st=(i:Int)/\a.length<=i/\i<(a++47::b).length) (λst=>st.toNat) ⟨_,rfl,by simp,by simp⟩ ?_);rintro st ⟨i,rfl,h1,h2⟩;unfold eE;rw [if_pos (by omega),if_pos ⟨by omega,by omega⟩];have hg:(a++47::b).getD (Int.toNat (i:Int)) 0=(a++47::b)[i]:=by rw [aar,c9,sh h2];rfl
  rw [hg];by_cases hi:i=a.length
  ·subst hi;rw [BY (by omega)];simp;exact .mk rfl
  ·have dG:(a++47::b)[i]≠47:=by
    obtain ⟨j,hj⟩: ∃j,i=a.length+(j+1):=⟨i-a.length-1,by omega⟩
    subst hj;rw [BY (by omega)];simp only [Nat.add_sub_cancel_left,List.getElem_cons_succ];intro e;apply hb;rw [<-e];exact IN _
   have adI: ¬((((a++47::b)[i]).toNat:Int)=47):=by intro e;apply dG;apply UInt8.toNat_inj.1;show _=47;omega
   rw [if_neg adI,wrap64 (by omega) (by omega)];exact .mk ⟨⟨i-1,by omega,by omega,by omega⟩,by omega⟩
 unfold jq;rw [if_neg (by decide),if_pos (by decide),if_pos (by decide)];have h47:(((([47]:List UInt8).getD (Int.toNat 0) 0).toNat:Nat):Int)=47:=by decide
 rw [h47];unfold eY;have hlen:((a++47::b).length:Int)-1=(((a++47::b).length-1:Nat):Int):=by simp;omega
 rw [hlen,wrap64 (by omega) (by omega),cw];rfl
theorem Kg {p:List UInt8}(h:lQ p=true): ∃r,p=47::r:=by
 cases p with
 |nil=>simp [lQ] at h
 |cons x r=>exact ⟨r,by rw [show x=47 by simpa [lQ] using h]⟩
theorem FD {p:List UInt8}(h:lQ p=true)(h1:p≠[47]): ∃L x,aH p=L++[x]/\p=L.flatMap ((47:UInt8)::·)++47::x/\(47:UInt8)∉x:=by
 obtain ⟨r,rfl⟩:=Kg h;have hn:aH (47::r)=ct 47 r:=by simp [aH,h1]
 have LQ:=pI (s9 (c:=47) r);refine ⟨_,_,by rw [hn];exact LQ.symm,?_,abv r _ (by rw [<-LQ];simp)⟩;have:=CP (c:=47) r;rw [<-LQ,AS] at this;simpa using this.symm
theorem MJ (p:List UInt8):ou p=some (if bA p then (if p=[47] then ([],6) else (lM (aH p).dropLast,0)) else ([],13)):=by
 unfold ou;rw [xi,av];cases h:bA p with
 |false=>simp
 |true=>
  obtain ⟨h1,h2,h3,h4⟩:=cR h;simp only [By,AI,if_false,if_true];by_cases hp:p=[47]
  ·rw [if_pos hp,if_pos hp]
  ·rw [if_neg hp,if_neg hp];obtain ⟨L,x,e1,e2,e3⟩:=FD h2 hp;rw [e1,List.dropLast_concat];rw [e2] at h1⊢;rw [OC e3 (by omega),av];generalize hJ:L.flatMap ((47:UInt8)::·)=J at h1;have hm:imax 1 (J.length:Int)=((max 1 J.length:Nat):Int):=by unfold imax;split<;>omega
   have hle:max 1 J.length<=(J++47::x).length:=by simp;omega
   rw [hm,if_pos ⟨by decide,by omega,by omega⟩];simp only [aar,aaF,aaJ,aaq,Prod.mk.injEq,and_true];unfold lM;cases L with
   |nil=>simp at hJ;subst hJ;simp
   |cons a L=>
    rw [if_neg (by simp),hJ];have fm:1<=J.length:=by rw [<-hJ];simp
    rw [Nat.max_eq_right fm,List.take_left'];rfl
theorem xj {p:List UInt8}(h:bA p=true):((aH p).length=0↔p=[47]):=by
 obtain ⟨h1,h2,h3,h4⟩:=cR h;constructor
 ·intro h0;by_cases hp:p=[47]
  ·exact hp
  ·obtain ⟨L,x,e1,_⟩:=FD h2 hp;rw [e1] at h0;simp at h0
 ·intro hp;simp [aH,hp]
theorem Rg {p:List UInt8}(h:lQ p=true)(k:Nat):(((aH p).take k).flatMap ((47:UInt8)::·)).length<=p.length:=by
 by_cases hp:p=[47]
 ·subst hp;simp [aH]
 ·obtain ⟨r,rfl⟩:=Kg h;have hn:aH (47::r)=ct 47 r:=by simp [aH,hp]
  have:=CP (c:=47) r;rw [hn];rw [<-No k (ct 47 r),AS] at this;rw [<-this,AT];omega
theorem yL (p:List UInt8):lZ p=some (if bA p then (if p=[47] then ([],6) else (lM (aH p).dropLast,0)) else ([],13)):=by
 unfold lZ;rw [vv,av];cases h:bA p with
 |false=>simp
 |true=>
  obtain ⟨h1,h2,h3,h4⟩:=cR h;simp only [if_true,decide_true,By,AI,if_false];by_cases hp:p=[47]
  ·rw [if_pos hp,if_pos (by rw [(xj h).2 hp];rfl)]
  ·have dG: ¬(aH p).length=0:=λe=>hp ((xj h).1 e);rw [if_neg hp,if_neg (by omega),wrap64 (by omega) (by omega),if_pos ⟨by decide,by omega,by omega⟩];have e1:(((aH p).length:Int)-1).toNat=(aH p).length-1:=by omega
   simp only [aaF,aaJ,e1];rw [<-OF];rw [aeO _ (by rw [OF];have:=Rg h2 ((aH p).length-1);omega) (by simp;omega),av]
theorem TD (a b:List (List UInt8))(hl:a.length<2^60):rr a b=some (decide (a=b)):=by
 unfold rr;by_cases he:a.length=b.length
 ·have:decide ((a.length:Int)=(b.length:Int))=true:=decide_eq_true (by omega);rw [this];simp only [By,AI,if_false];rw [xh he (λk ha hb=>by
   unfold qP;rw [if_pos (by omega),ba ha,ba hb,wrap64 (by omega) (by omega)];by_cases hh:a[k]=b[k]<;>simp [hh]) (by
   unfold qP;rw [if_neg (by omega)]),av]
  by_cases Tx:a=b<;>simp [Tx]
 ·have:decide ((a.length:Int)=(b.length:Int))=false:=decide_eq_false (by omega);rw [this];have Tx:a≠b:=λe=>he (by rw [e]);simp [Tx]
end Dn.S
