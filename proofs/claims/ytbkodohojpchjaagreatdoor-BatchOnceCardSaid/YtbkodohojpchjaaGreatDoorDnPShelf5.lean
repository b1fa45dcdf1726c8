import Derived.Test.YtbkodohojpchjaaGreatDoorDnPShelf4
/- Shelves: kids; ShelfAsks. Conditions: none. -/
set_option linter.unusedVariables false
set_option linter.unusedSimpArgs false
open List renaming dropLast_eq_take→bN,length_drop→AI,filter_eq_nil_iff→AS,mem_iff_getElem→AT,filter_append→By,getElem_drop→BY,length_take→IT
open Bool renaming eq_false_iff→sh,and_eq_true→IN
open Go.IntKind renaming wrap→No
open Go Dn
namespace Dn.S
theorem SS {x p:List UInt8}(hx:bX x=true)(hp:bX p=true):((fB x).2=0/\(fB x).1=p)↔(kf (aT p) (aT x)=true/\(aT x).length=(aT p).length+1):=by
 obtain ⟨x1,x2,x3,x4⟩:=iw hx;obtain ⟨p1,p2,p3,p4⟩:=iw hp;unfold fB;rw [hx];by_cases h0:x=[47]
 ·have hn:(aT x).length=0:=(MH hx).2 h0;simp only [if_true,h0];constructor
  ·rintro ⟨h,_⟩;exact absurd h (by decide)
  ·rintro ⟨_,h⟩;rw [<-h0,hn] at h;omega
 ·have hn: ¬(aT x).length=0:=λe=>h0 ((MH hx).1 e);simp only [if_true,h0,if_false,true_and];have sR:(aT x).dropLast.all ra=true:=by rw [List.all_eq_true] at x4⊢;exact λy hy=>x4 y (List.mem_of_mem_take (by rw [bN] at hy;exact hy))
  obtain ⟨g1,g2,_⟩:=JP sR;constructor
  ·intro h;have hnp:aT p=(aT x).dropLast:=by rw [<-h,g1]
   unfold kf;rw [hnp,List.length_dropLast,bN];simp only [IN,decide_eq_true_eq];exact ⟨⟨by omega,trivial⟩,by omega⟩
  ·rintro ⟨hb,hlen⟩;unfold kf at hb;simp only [IN,decide_eq_true_eq] at hb;have:(aT x).dropLast=aT p:=by rw [bN,hlen,Nat.add_sub_cancel];exact hb.2.symm
   rw [this,Ct p2]
def EV (p:List UInt8)(n:af):Bool:=decide ((fB n.Path).2=0/\(fB n.Path).1=p)
def aa4 (n:af):List UInt8:=(aT n.Path).getLastD []
def mu (L:List af)(p:List UInt8):List (List UInt8):=(L.filter (EV p)).map aa4
theorem MK (L:List af)(p:List UInt8):(mu L p).length<=L.length:=by unfold mu;rw [List.length_map];exact List.length_filter_le _ _
theorem SU {L:List af}{p:List UInt8}{k:Nat}(hk:k<L.length):mu (L.take (k+1)) p=if EV p L[k] then mu (L.take k) p++[aa4 L[k]] else mu (L.take k) p:=by
 unfold mu;rw [take_succ hk,By,List.map_append];by_cases h:EV p L[k]=true
 ·simp [h]
 ·simp [h]
theorem Ba {p:List UInt8}{n:af}(hn:bX n.Path=true)(hp:bX p=true):EV p n=true↔(kf (aT p) (aT n.Path)=true/\(aT n.Path).length=(aT p).length+1):=by unfold EV;rw [decide_eq_true_eq];exact SS hn hp
theorem JS {L:List af}(hs:rI L){i j:Nat}(hi:i<L.length)(hj:j<L.length)(h:i<j):rG (aT (L[i]).Path) (aT (L[j]).Path)=true:=List.pairwise_iff_getElem.1 hs.2 i j hi hj h
theorem kg {L:List af}(hs:rI L){i:Nat}(hi:i<L.length):bX (L[i]).Path=true:=hs.1 _ (List.getElem_mem hi)
theorem WH {L:List af}(hs:rI L){p:List UInt8}{i:Nat}(hi:i<L.length)(hp:(L[i]).Path=p){j:Nat}(hj:j<L.length)(XG:j<=i):EV p L[j]=false:=by
 rw [sh];intro h;have Hp:bX p=true:=by rw [<-hp];exact kg hs hi
 have h1:=aa0 ((Ba (kg hs hj) Hp).1 h).1;by_cases he:j=i
 ·subst he;rw [hp,DP] at h1;cases h1
 ·have h2:=JS hs hj hi (by omega);rw [hp] at h2;have:=MI h1 h2;rw [DP] at this;cases this
theorem Cu {L:List af}(hs:rI L){p:List UInt8}{i:Nat}(hi:i<L.length)(hp:(L[i]).Path=p):mu (L.take (i+1)) p=[]:=by unfold mu;rw [List.map_eq_nil_iff,AS];intro n hn;obtain ⟨j,hj,rfl⟩:=AT.1 hn;rw [IT] at hj;rw [List.getElem_take];rw [WH hs hi hp (by omega) (by omega)];simp
theorem WI {L:List af}(hs:rI L){p:List UInt8}{i k:Nat}(hi:i<L.length)(hp:(L[i]).Path=p)(hk:k<L.length)(hik:i<k)(hb:rH p (L[k]).Path=false){j:Nat}(hj:j<L.length)(hkj:k<=j): rH p (L[j]).Path=false:=by
 rw [sh];intro h;have Hp:bX p=true:=by rw [<-hp];exact kg hs hi
 unfold rH at h hb;rw [Hp,kg hs hj] at h;rw [Hp,kg hs hk] at hb;simp only [Bool.true_and] at h hb;by_cases he:j=k
 ·subst he;rw [h] at hb;cases hb
 ·have h1:=JS hs hi hk hik;rw [hp] at h1;have:=aep h1 (JS hs hk hj (by omega)) h;rw [this] at hb;cases hb
theorem QG {L:List af}(hs:rI L){p:List UInt8}{i k:Nat}(hi:i<L.length)(hp:(L[i]).Path=p)(hk:k<L.length)(hik:i<k)(hb:rH p (L[k]).Path=false):mu (L.take k) p=mu L p:=by
 have Hp:bX p=true:=by rw [<-hp];exact kg hs hi
 have:(L.drop k).filter (EV p)=[]:=by rw [AS];intro n hn aer;obtain ⟨j,hj,rfl⟩:=AT.1 hn;rw [AI] at hj;rw [BY] at aer;have h1:=WI hs hi hp hk hik hb (j:=k+j) (by omega) (by omega);have h2:=((Ba (kg hs (by omega)) Hp).1 aer).1;unfold rH at h1;rw [Hp,kg hs (by omega),h2] at h1;simp at h1
 unfold mu;conv=>rhs;rw [<-List.take_append_drop k L]
 rw [By,this,List.append_nil]
theorem UM {L:List af}{p:List UInt8}(h:(dh L p).2=0):bX p=true/\ ∃i,∃hi:i<L.length,(dh L p).1=(i:Int)/\(L[i]).Path=p:=by
 unfold dh at h⊢;cases hp:bX p with
 |false=>rw [hp] at h;simp at h
 |true=>
  rw [hp] at h;by_cases h0:0<=EU (L.map (·.Path)) p
  ·simp only [if_true,h0];refine ⟨trivial,?_⟩;unfold EU at h0⊢;cases hf:(L.map (·.Path)).findIdx? (λx=>decide (x=p)) with
   |none=>rw [hf] at h0;simp at h0
   |some k=>have O9:=hf;rw [List.findIdx?_eq_some_iff_getElem] at O9;obtain ⟨hk,hd,_⟩:=O9;exact ⟨k,by simpa using hk,rfl,by simpa using hd⟩
  ·simp [h0] at h
def JT (L:List af)(p:List UInt8):List (List UInt8)×Int:=if (dh L p).2=0 then (mu L p,0) else ([],(dh L p).2)
theorem QH {l:List (List UInt8)}{n:Nat}(h:l.length=n+1):l.getLastD []=l[n]'(by omega):=by
 have cR:l≠[]:=by intro e;rw [e] at h;simp at h
 rw [List.getLastD_eq_getLast?,List.getLast?_eq_some_getLast cR,Option.getD_some,List.getLast_eq_getElem];congr 1;omega
theorem aes {s:aC}(hs:rI s.L)(hl:s.L.length<2^40)(p:List UInt8):s8 s p=some (JT s.L p):=by
 unfold s8 JT;rw [find_eq hs hl,az];by_cases h:(dh s.L p).2=0;rotate_left
 ·rw [decide_eq_false h,if_pos (by decide),if_neg h]
 obtain ⟨hp,i,hi,YM,hip⟩:=UM h;obtain ⟨_,_,hp8,_⟩:=iw hp;have hw:No .i64 ((dh s.L p).1+1)=((i+1:Nat):Int):=by rw [YM,wrap64 (by omega) (by omega)];omega
 rw [decide_eq_true h,if_neg (by decide),QA,az,hp,hw,if_pos (by omega),if_pos h];simp only [if_true];have hD:List.drop (Int.toNat (No .i64 ((dh s.L p).1+1))) (List.take (Int.toNat (s.L.length:Int)) s.L)=s.L.drop (i+1):=by rw [hw];simp
 have ke:Loop (o7 s p (dh s.L p) (aT p,0)) (([]:List (List UInt8)),0)=some (mu s.L p):=by
  refine bG.eq (bG.count (λk=>(mu (s.L.take (i+1+k)) p,(k:Int))) (s.L.length-(i+1)) (λ_=>True) (by rw [Nat.add_zero,Cu hs hi hip];rfl) trivial (λk hk _=> ?_) (λ_=> ?_))
  ·have hki:i+1+k<s.L.length:=by omega
   have hr:=kg hs hki;have hkl:=MK (s.L.take (i+1+k)) p;rw [IT] at hkl;unfold o7;rw [hD];dsimp only;have hkd:k<(s.L.drop (i+1)).length:=by rw [AI];omega
   rw [if_pos (by omega),b7 hkd,BY,QD,az];cases hb:rH p (s.L[i+1+k]).Path with
   |false=>rw [if_pos (by decide)];exact .mk (QG hs hi hip hki (by omega) hb)
   |true=>
    rw [if_neg (by decide),QA,az,hr];simp only [if_true];obtain ⟨_,_,hr8,_⟩:=iw hr;rw [wrap64 (x:=((aT p).length:Int)+1) (by omega) (by omega),wrap64 (by omega) (by omega)];have hsu:=SU (p:=p) hki;have hkb:=Ba (n:=s.L[i+1+k]) hr hp;have GM:kf (aT p) (aT (s.L[i+1+k]).Path)=true:=by unfold rH at hb;rw [hp,hr] at hb;simpa using hb
    by_cases hlen:(aT (s.L[i+1+k]).Path).length=(aT p).length+1
    ·rw [if_pos (by omega),b7 (by omega),if_pos (by simp only [List.length_cons,List.length_nil];omega),az];rw [hkb.2 ⟨GM,hlen⟩,if_pos rfl] at hsu;refine .mk ⟨?_,trivial⟩;rw [show i+1+(k+1)=i+1+k+1 by omega,hsu];unfold aa4;rw [QH hlen];rfl
    ·rw [if_neg (by omega),az];have:EV p s.L[i+1+k]=false:=by rw [sh];intro hh;exact hlen (hkb.1 hh).2
     rw [this,if_neg (by decide)] at hsu;refine .mk ⟨?_,trivial⟩;rw [show i+1+(k+1)=i+1+k+1 by omega,hsu];rfl
  ·unfold o7;rw [hD];dsimp only;rw [AI,if_neg (by omega)];refine .mk ?_;show mu (s.L.take (i+1+(s.L.length-(i+1)))) p=_;rw [List.take_of_length_le (by omega)]
 rw [ke,az]
theorem ahU (L:List af)(p:List UInt8):(lq L p).2=(dh L p).2:=by unfold lq;by_cases h:(dh L p).2=0<;>simp [h]
theorem WJ (L:List af)(p:List UInt8):(JT L p).1.length<=L.length:=by
 unfold JT;by_cases h:(dh L p).2=0
 ·simp only [h,if_true];exact MK L p
 ·simp [h]
end Dn.S
