import Derived.Test.YtbkodohojpchjaaGreatDoorDnPPath2
/-
  Paths: what the document says; PathTells. Conditions: none.
-/
set_option linter.unusedVariables false
set_option linter.unusedSimpArgs false
open List renaming getD_eq_getElem?_getD→c8,getElem?_eq_getElem→sh,flatMap_append→AS,length_append→AT,getElem_append_right→BY,getElem_mem→IN,length_cons→IS,length_nil→IT,take_append_drop→No,dropLast_eq_take→OF,length_drop→aai,drop_zero→aaG
open Bool renaming false_eq_true→AI,not_true→By
open Option.some renaming injEq→aaa
open Int renaming toNat_natCast→aaf,toNat_zero→aaj
open Go Dn
namespace Dn.S
theorem mC (p:List UInt8):gM p=some (bn p):=by
 unfold gM;by_cases hl:p.length<=100;rotate_left
 ·rw [if_pos (by omega)];simp [bn,hl]
 rw [if_neg (by omega),MR p (by omega),al];have hle: ∀y∈(if lP p then aE p else []),y.length<=100:=by
  intro y hy;split at hy
  ·unfold aE at hy;split at hy
   ·simp at hy
   ·have:=Rj _ y hy;rw [aai] at this;omega
  ·simp at hy
 have hlen:(if lP p then aE p else []).length<=101:=by
  split
  ·unfold aE;split
   ·simp
   ·have:=yX (c:=47) (p.drop 1);rw [aai] at this;omega
  ·simp
 generalize hL:(if lP p then aE p else [])=L at hle hlen;obtain ⟨r,e,hr⟩:=rI (body:=qW (L,lP p)) L.length (λk=>gX (L.getD k [])=true) false (λk hk _=>by
  have hg:L.getD k []=L[k]:=by rw [c8,sh hk];rfl
  unfold qW;dsimp only;rw [if_pos (by omega),aP hk,OD _ (by have:=hle _ (IN hk);omega),al,hg];constructor
  ·intro h;rw [h];simp only [By,AI,if_false];rw [wrap64 (by omega) (by omega)];rfl
  ·intro h;rw [Bool.not_eq_true] at h;rw [h];rfl) (by
  unfold qW;dsimp only;rw [if_neg (by omega)])
 rw [e,al];have lW:(∀k,k<L.length->gX (L.getD k [])=true)↔L.all gX=true:=by
  rw [List.all_eq_true];constructor
  ·intro h x hx;obtain ⟨k,hk,rfl⟩:=List.mem_iff_getElem.1 hx;have:=h k hk;rwa [c8,sh hk] at this
  ·intro h k hk;rw [c8,sh hk];exact h _ (IN hk)
 unfold bn;cases ha:lP p with
 |false=>rcases hr with ⟨rfl,h⟩|⟨rfl,k,hk,h⟩<;>simp [al]
 |true=>
  rw [ha] at hL;simp only [if_true] at hL;rw [hL];rcases hr with ⟨rfl,h⟩|⟨rfl,k,hk,h⟩
  ·have h:=lW.1 h;simp only [if_true,al,GC,h,hl,decide_true,Bool.and_true,Bool.true_and,aaa,decide_eq_decide];omega
  ·have:L.all gX=false:=by rw [Bool.eq_false_iff];intro hh;exact h (lW.2 hh k hk)
   simp [this]
theorem cQ {p:List UInt8}(h:bn p=true):p.length<=100/\lP p=true/\(aE p).length<=8/\(aE p).all gX=true:=by unfold bn at h;simp only [Bool.and_eq_true,decide_eq_true_eq] at h;exact ⟨h.1.2,h.1.1,h.2.1,h.2.2⟩
theorem vz (p:List UInt8):ov p=some (if bn p then (aE p,0) else ([],13)):=by
 unfold ov;rw [mC,al];cases h:bn p with
 |false=>simp
 |true=>obtain ⟨h1,h2,_⟩:=cQ h;simp only [By,AI,if_false,if_true];rw [MR p (by omega),al,h2];rfl
def lK (l:List (List UInt8)):List UInt8:=if l=[] then [47] else l.flatMap (47::·)
theorem aeZ (l:List (List UInt8))(h1:(l.flatMap ((47:UInt8)::·)).length<=2^40)(h2:l.length<2^60):Ai l=some (lK l):=by
 have cV:Loop (tp l) (([]:List UInt8),0)=some (l.flatMap ((47:UInt8)::·)):=by
  refine aM.eq (aM.count (λk=>((l.take k).flatMap ((47:UInt8)::·),(k:Int))) l.length (λ_=>True) rfl trivial (λk hk _=> ?_) (λ_=> ?_))
  ·unfold tp;dsimp only;have hsp:(l.take (k+1)).flatMap ((47:UInt8)::·)=(l.take k).flatMap ((47:UInt8)::·)++[47]++l[k]:=by rw [take_succ hk,AS];simp
   have amU:((l.take (k+1)).flatMap ((47:UInt8)::·)).length<=(l.flatMap ((47:UInt8)::·)).length:=by
    have:l.flatMap ((47:UInt8)::·)=(l.take (k+1)).flatMap ((47:UInt8)::·)++(l.drop (k+1)).flatMap ((47:UInt8)::·):=by rw [<-AS,No]
    rw [this,AT];omega
   rw [hsp] at amU;simp only [AT,IS,IT] at amU;rw [if_pos (by omega),if_pos (by simp only [IS,IT];omega),aP hk,if_pos (by simp only [AT,IS,IT];omega),wrap64 (by omega) (by omega)];refine .mk ⟨?_,trivial⟩;rw [hsp];rfl
  ·unfold tp;dsimp only;rw [if_neg (by omega),List.take_length];exact .mk rfl
 unfold Ai;rw [cV,al];unfold lK;cases l with
 |nil=>rfl
 |cons a l=>simp
theorem OH {a b:List UInt8}(hb:(47:UInt8)∉b)(hl:(a++47::b).length<2^60):jo (a++47::b) ([47]:List UInt8)=some (a.length:Int):=by
 have cV:Loop (eC (a++47::b) 47) (((a++47::b).length-1:Nat):Int)=some (.inr (a.length:Int)):=by
  refine aM.eq (aM.loop (λst=> ∃i:Nat,st=(i:Int)/\a.length<=i/\i<(a++47::b).length) (λst=>st.toNat) ⟨_,rfl,by simp,by simp⟩ ?_);rintro st ⟨i,rfl,h1,h2⟩;unfold eC;rw [if_pos (by omega),if_pos ⟨by omega,by omega⟩];have hg:(a++47::b).getD (Int.toNat (i:Int)) 0=(a++47::b)[i]:=by rw [aaf,c8,sh h2];rfl
  rw [hg];by_cases hi:i=a.length
  ·subst hi;rw [BY (by omega)];simp;exact .mk rfl
  ·have dG:(a++47::b)[i]≠47:=by
    obtain ⟨j,hj⟩: ∃j,i=a.length+(j+1):=⟨i-a.length-1,by omega⟩
    subst hj;rw [BY (by omega)];simp only [Nat.add_sub_cancel_left,List.getElem_cons_succ];intro e;apply hb;rw [<-e];exact IN _
   have ad5: ¬((((a++47::b)[i]).toNat:Int)=47):=by intro e;apply dG;apply UInt8.toNat_inj.1;show _=47;omega
   rw [if_neg ad5,wrap64 (by omega) (by omega)];exact .mk ⟨⟨i-1,by omega,by omega,by omega⟩,by omega⟩
 unfold jo;rw [if_neg (by decide),if_pos (by decide),if_pos (by decide)];have h47:(((([47]:List UInt8).getD (Int.toNat 0) 0).toNat:Nat):Int)=47:=by decide
 rw [h47];unfold eX;have hlen:((a++47::b).length:Int)-1=(((a++47::b).length-1:Nat):Int):=by simp;omega
 rw [hlen,wrap64 (by omega) (by omega),cV];rfl
theorem Kb {p:List UInt8}(h:lP p=true): ∃r,p=47::r:=by
 cases p with
 |nil=>simp [lP] at h
 |cons x r=>exact ⟨r,by rw [show x=47 by simpa [lP] using h]⟩
theorem FI {p:List UInt8}(h:lP p=true)(h1:p≠[47]): ∃L x,aE p=L++[x]/\p=L.flatMap ((47:UInt8)::·)++47::x/\(47:UInt8)∉x:=by
 obtain ⟨r,rfl⟩:=Kb h;have hn:aE (47::r)=cy 47 r:=by simp [aE,h1]
 have LW:=pL (s9 (c:=47) r);refine ⟨_,_,by rw [hn];exact LW.symm,?_,abK r _ (by rw [<-LW];simp)⟩;have:=C6 (c:=47) r;rw [<-LW,AS] at this;simpa using this.symm
theorem MU (p:List UInt8):oz p=some (if bn p then (if p=[47] then ([],6) else (lK (aE p).dropLast,0)) else ([],13)):=by
 unfold oz;rw [xt,al];cases h:bn p with
 |false=>simp
 |true=>
  obtain ⟨h1,h2,h3,h4⟩:=cQ h;simp only [By,AI,if_false,if_true];by_cases hp:p=[47]
  ·rw [if_pos hp,if_pos hp]
  ·rw [if_neg hp,if_neg hp];obtain ⟨L,x,e1,e2,e3⟩:=FI h2 hp;rw [e1,List.dropLast_concat];rw [e2] at h1⊢;rw [OH e3 (by omega),al];generalize hJ:L.flatMap ((47:UInt8)::·)=J at h1;have hm:imax 1 (J.length:Int)=((max 1 J.length:Nat):Int):=by unfold imax;split<;>omega
   have hle:max 1 J.length<=(J++47::x).length:=by simp;omega
   rw [hm,if_pos ⟨by decide,by omega,by omega⟩];simp only [aaf,aaj,aaG,aaa,Prod.mk.injEq,and_true];unfold lK;cases L with
   |nil=>simp at hJ;subst hJ;simp
   |cons a L=>
    rw [if_neg (by simp),hJ];have fg:1<=J.length:=by rw [<-hJ];simp
    rw [Nat.max_eq_right fg,List.take_left'];rfl
theorem xu {p:List UInt8}(h:bn p=true):((aE p).length=0↔p=[47]):=by
 obtain ⟨h1,h2,h3,h4⟩:=cQ h;constructor
 ·intro h0;by_cases hp:p=[47]
  ·exact hp
  ·obtain ⟨L,x,e1,_⟩:=FI h2 hp;rw [e1] at h0;simp at h0
 ·intro hp;simp [aE,hp]
theorem Rl {p:List UInt8}(h:lP p=true)(k:Nat):(((aE p).take k).flatMap ((47:UInt8)::·)).length<=p.length:=by
 by_cases hp:p=[47]
 ·subst hp;simp [aE]
 ·obtain ⟨r,rfl⟩:=Kb h;have hn:aE (47::r)=cy 47 r:=by simp [aE,hp]
  have:=C6 (c:=47) r;rw [hn];rw [<-No k (cy 47 r),AS] at this;rw [<-this,AT];omega
theorem sR (p:List UInt8):jH p=some (if bn p then (if p=[47] then ([],6) else (lK (aE p).dropLast,0)) else ([],13)):=by
 unfold jH;rw [vz,al];cases h:bn p with
 |false=>simp
 |true=>
  obtain ⟨h1,h2,h3,h4⟩:=cQ h;simp only [if_true,decide_true,By,AI,if_false];by_cases hp:p=[47]
  ·rw [if_pos hp,if_pos (by rw [(xu h).2 hp];rfl)]
  ·have dG: ¬(aE p).length=0:=λe=>hp ((xu h).1 e);rw [if_neg hp,if_neg (by omega),wrap64 (by omega) (by omega),if_pos ⟨by decide,by omega,by omega⟩];have e1:(((aE p).length:Int)-1).toNat=(aE p).length-1:=by omega
   simp only [aaj,aaG,e1];rw [<-OF];rw [aeZ _ (by rw [OF];have:=Rl h2 ((aE p).length-1);omega) (by simp;omega),al]
theorem T2 (a b:List (List UInt8))(hl:a.length<2^60):rm a b=some (decide (a=b)):=by
 unfold rm;by_cases he:a.length=b.length
 ·have:decide ((a.length:Int)=(b.length:Int))=true:=decide_eq_true (by omega);rw [this];simp only [By,AI,if_false];rw [xr he (λk ha hb=>by
   unfold qI;rw [if_pos (by omega),aP ha,aP hb,wrap64 (by omega) (by omega)];by_cases hh:a[k]=b[k]<;>simp [hh]) (by
   unfold qI;rw [if_neg (by omega)]),al]
  by_cases TW:a=b<;>simp [TW]
 ·have:decide ((a.length:Int)=(b.length:Int))=false:=decide_eq_false (by omega);rw [this];have TW:a≠b:=λe=>he (by rw [e]);simp [TW]
end Dn.S
