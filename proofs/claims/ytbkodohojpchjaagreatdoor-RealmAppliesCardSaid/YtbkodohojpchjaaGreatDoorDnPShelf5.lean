import Derived.Test.YtbkodohojpchjaaGreatDoorDnPShelf4
/-
  Shelves: kids; ShelfAsks. Conditions: none.
-/
set_option linter.unusedVariables false
set_option linter.unusedSimpArgs false
open List renaming length_map→c8,dropLast_eq_take→sh,getLast?_eq_some_getLast→AI,getLastD_eq_getLast?→AS,getLast_eq_getElem→By,length_take→BY,length_drop→IN,filter_eq_nil_iff→IS,mem_iff_getElem→IT,filter_append→No,getElem_drop→aaa,getElem_map→aaj,getElem_mem→aaG,length_cons→aaH,length_nil→aaI
open Bool renaming eq_false_iff→AT,and_eq_true→aaf
open Go.IntKind renaming wrap→OF
open Option renaming getD_some→aai
open Go Dn
namespace Dn.S
theorem T7 {x p:List UInt8}(hx:bn x=true)(hp:bn p=true):((bS x).2=0/\(bS x).1=p)↔(jL (aE p) (aE x)=true/\(aE x).length=(aE p).length+1):=by
 obtain ⟨x1,x2,x3,x4⟩:=cQ hx;obtain ⟨p1,p2,p3,p4⟩:=cQ hp;unfold bS;rw [hx];by_cases h0:x=[47]
 ·have hn:(aE x).length=0:=(xu hx).2 h0;simp only [if_true,h0];constructor
  ·rintro ⟨h,_⟩;exact absurd h (by decide)
  ·rintro ⟨_,h⟩;rw [<-h0,hn] at h;omega
 ·have hn: ¬(aE x).length=0:=λe=>h0 ((xu hx).1 e);simp only [if_true,h0,if_false,true_and];have lW:(aE x).dropLast.all gX=true:=by rw [List.all_eq_true] at x4⊢;exact λy hy=>x4 y (List.mem_of_mem_take (by rw [sh] at hy;exact hy))
  obtain ⟨g1,g2,_⟩:=yY lW;constructor
  ·intro h;have hnp:aE p=(aE x).dropLast:=by rw [<-h,g1]
   unfold jL;rw [hnp,List.length_dropLast,sh];simp only [aaf,decide_eq_true_eq];exact ⟨⟨by omega,trivial⟩,by omega⟩
  ·rintro ⟨hb,hlen⟩;unfold jL at hb;simp only [aaf,decide_eq_true_eq] at hb;have:(aE x).dropLast=aE p:=by rw [sh,hlen,Nat.add_sub_cancel];exact hb.2.symm
   rw [this,C7 p2]
def zI (p:List UInt8)(n:af):Bool:=decide ((bS n.Path).2=0/\(bS n.Path).1=p)
def GD (n:af):List UInt8:=(aE n.Path).getLastD []
def jE (L:List af)(p:List UInt8):List (List UInt8):=(L.filter (zI p)).map GD
theorem FM (L:List af)(p:List UInt8):(jE L p).length<=L.length:=by unfold jE;rw [c8];exact List.length_filter_le _ _
theorem Kf {L:List af}{p:List UInt8}{k:Nat}(hk:k<L.length):jE (L.take (k+1)) p=if zI p L[k] then jE (L.take k) p++[GD L[k]] else jE (L.take k) p:=by
 unfold jE;rw [take_succ hk,No,List.map_append];by_cases h:zI p L[k]=true
 ·simp [h]
 ·simp [h]
theorem ae3 {α R:Type}{l:List α}(h:l≠[])(hl:l.length<2^60)(d:α)(K:α->Option R):ix l (OF .i64 ((l.length:Int)-1)) K=K (l.getLastD d):=by have fg:0<l.length:=List.length_pos_iff.2 h;rw [wrap64 (by omega) (by omega),show (l.length:Int)-1=((l.length-1:Nat):Int) by omega,aP (by omega)];rw [AS,AI h,aai,By]
theorem VN {s:aA}(hs:nm s.L)(hl:s.L.length<2^40)(p:List UInt8):wW (ch s) p=some (jE s.L p):=by
 have hlen:(ch s).L.length=s.L.length:=c8 ..;have cV:Loop (tH (ch s) p) (([]:List (List UInt8)),0)=some (jE s.L p):=by
  refine aM.eq (aM.count (λk=>(jE (s.L.take k) p,(k:Int))) s.L.length (λ_=>True) rfl trivial (λk hk _=> ?_) (λ_=> ?_))
  ·have KC:k<(ch s).L.length:=by rw [hlen];exact hk
   have lX:(ch s).L[k]=toR s.L[k]:=aaj ..;have hr:=hs.1 _ (aaG hk);have hkl:=FM (s.L.take k) p;rw [BY] at hkl;unfold tH;dsimp only;rw [if_pos (by omega),aP KC,lX];simp only [toR_path];rw [sR,al];have hw:(if (bS (s.L[k]).Path).2=0 then some (decide ((bS (s.L[k]).Path).1=p)) else some false)=some (zI p s.L[k]):=by unfold zI;by_cases h:(bS (s.L[k]).Path).2=0<;>simp [h]
   show aM (bd (if (bS (s.L[k]).Path).2=0 then some (decide ((bS (s.L[k]).Path).1=p)) else some false) _) _;rw [hw,al,wrap64 (by omega) (by omega)];have hsu:=Kf (p:=p) hk;cases hkb:zI p s.L[k] with
   |false=>rw [if_neg (by decide),al];rw [hkb,if_neg (by decide)] at hsu;exact .mk ⟨by rw [hsu];rfl,trivial⟩
   |true=>
    rw [hkb,if_pos rfl] at hsu;have dG:aE (s.L[k]).Path≠[]:=by intro e;have h0:=(xu hr).1 (by rw [e];rfl);unfold zI bS at hkb;rw [hr,h0] at hkb;simp at hkb
    have h8:=(cQ hr).2.2.1;rw [if_pos rfl,aP KC,lX];simp only [toR_path];rw [vz,al,hr];simp only [if_true];rw [ae3 dG (by omega) []];rw [if_pos (by simp only [aaH,aaI];omega),al];exact .mk ⟨by rw [hsu];rfl,trivial⟩
  ·unfold tH;dsimp only;rw [hlen,if_neg (by omega),List.take_length];exact .mk rfl
 unfold wW;rw [cV];rfl
theorem xv {p:List UInt8}{n:af}(hn:bn n.Path=true)(hp:bn p=true):zI p n=true↔(jL (aE p) (aE n.Path)=true/\(aE n.Path).length=(aE p).length+1):=by unfold zI;rw [decide_eq_true_eq];exact T7 hn hp
theorem C8 {L:List af}(hs:nm L){i j:Nat}(hi:i<L.length)(hj:j<L.length)(h:i<j):nH (aE (L[i]).Path) (aE (L[j]).Path)=true:=List.pairwise_iff_getElem.1 hs.2 i j hi hj h
theorem dY {L:List af}(hs:nm L){i:Nat}(hi:i<L.length):bn (L[i]).Path=true:=hs.1 _ (aaG hi)
theorem XF {L:List af}(hs:nm L){p:List UInt8}{i:Nat}(hi:i<L.length)(hp:(L[i]).Path=p){j:Nat}(hj:j<L.length)(WL:j<=i):zI p L[j]=false:=by
 rw [AT];intro h;have H8:bn p=true:=by rw [<-hp];exact dY hs hi
 have h1:=abO ((xv (dY hs hj) H8).1 h).1;by_cases he:j=i
 ·subst he;rw [hp,BO] at h1;cases h1
 ·have h2:=C8 hs hj hi (by omega);rw [hp] at h2;have:=BP h1 h2;rw [BO] at this;cases this
theorem C9 {L:List af}(hs:nm L){p:List UInt8}{i:Nat}(hi:i<L.length)(hp:(L[i]).Path=p):jE (L.take (i+1)) p=[]:=by unfold jE;rw [List.map_eq_nil_iff,IS];intro n hn;obtain ⟨j,hj,rfl⟩:=IT.1 hn;rw [BY] at hj;rw [List.getElem_take];rw [XF hs hi hp (by omega) (by omega)];simp
theorem XG {L:List af}(hs:nm L){p:List UInt8}{i k:Nat}(hi:i<L.length)(hp:(L[i]).Path=p)(hk:k<L.length)(hik:i<k)(hb:r5 p (L[k]).Path=false){j:Nat}(hj:j<L.length)(hkj:k<=j): r5 p (L[j]).Path=false:=by
 rw [AT];intro h;have H8:bn p=true:=by rw [<-hp];exact dY hs hi
 unfold r5 at h hb;rw [H8,dY hs hj] at h;rw [H8,dY hs hk] at hb;simp only [Bool.true_and] at h hb;by_cases he:j=k
 ·subst he;rw [h] at hb;cases hb
 ·have h1:=C8 hs hi hk hik;rw [hp] at h1;have:=ae0 h1 (C8 hs hk hj (by omega)) h;rw [this] at hb;cases hb
theorem Rt {L:List af}(hs:nm L){p:List UInt8}{i k:Nat}(hi:i<L.length)(hp:(L[i]).Path=p)(hk:k<L.length)(hik:i<k)(hb:r5 p (L[k]).Path=false):jE (L.take k) p=jE L p:=by
 have H8:bn p=true:=by rw [<-hp];exact dY hs hi
 have:(L.drop k).filter (zI p)=[]:=by rw [IS];intro n hn ae5;obtain ⟨j,hj,rfl⟩:=IT.1 hn;rw [IN] at hj;rw [aaa] at ae5;have h1:=XG hs hi hp hk hik hb (j:=k+j) (by omega) (by omega);have h2:=((xv (dY hs (by omega)) H8).1 ae5).1;unfold r5 at h1;rw [H8,dY hs (by omega),h2] at h1;simp at h1
 unfold jE;conv=>rhs;rw [<-List.take_append_drop k L]
 rw [No,this,List.append_nil]
theorem OM {L:List af}{p:List UInt8}(h:(cu L p).2=0):bn p=true/\ ∃i,∃hi:i<L.length,(cu L p).1=(i:Int)/\(L[i]).Path=p:=by
 unfold cu at h⊢;cases hp:bn p with
 |false=>rw [hp] at h;simp at h
 |true=>
  rw [hp] at h;by_cases h0:0<=mD (L.map (·.Path)) p
  ·simp only [if_true,h0];refine ⟨trivial,?_⟩;unfold mD at h0⊢;cases hf:(L.map (·.Path)).findIdx? (λx=>decide (x=p)) with
   |none=>rw [hf] at h0;simp at h0
   |some k=>have UG:=hf;rw [List.findIdx?_eq_some_iff_getElem] at UG;obtain ⟨hk,hd,_⟩:=UG;exact ⟨k,by simpa using hk,rfl,by simpa using hd⟩
  ·simp [h0] at h
def nI (L:List af)(p:List UInt8):List (List UInt8)×Int:=if (cu L p).2=0 then (jE L p,0) else ([],(cu L p).2)
theorem A4 {l:List (List UInt8)}{n:Nat}(h:l.length=n+1):l.getLastD []=l[n]'(by omega):=by
 have dG:l≠[]:=by intro e;rw [e] at h;simp at h
 rw [AS,AI dG,aai,By];congr 1;omega
theorem ae6 {s:aA}(hs:nm s.L)(hl:s.L.length<2^40)(p:List UInt8):tt s p=some (nI s.L p):=by
 unfold tt nI;rw [find_eq hs hl,al];by_cases h:(cu s.L p).2=0;rotate_left
 ·rw [decide_eq_false h,if_pos (by decide),if_neg h]
 obtain ⟨hp,i,hi,hfi,hip⟩:=OM h;obtain ⟨_,_,hp8,_⟩:=cQ hp;have hw:OF .i64 ((cu s.L p).1+1)=((i+1:Nat):Int):=by rw [hfi,wrap64 (by omega) (by omega)];omega
 rw [decide_eq_true h,if_neg (by decide),Rk,al,hp,hw,if_pos (by omega),if_pos h];simp only [if_true];have hD:List.drop (Int.toNat (OF .i64 ((cu s.L p).1+1))) (List.take (Int.toNat (s.L.length:Int)) s.L)=s.L.drop (i+1):=by rw [hw];simp
 have cV:Loop (o9 s p (cu s.L p) (aE p,0)) (([]:List (List UInt8)),0)=some (jE s.L p):=by
  refine aM.eq (aM.count (λk=>(jE (s.L.take (i+1+k)) p,(k:Int))) (s.L.length-(i+1)) (λ_=>True) (by rw [Nat.add_zero,C9 hs hi hip];rfl) trivial (λk hk _=> ?_) (λ_=> ?_))
  ·have O4:i+1+k<s.L.length:=by omega
   have hr:=dY hs O4;have hkl:=FM (s.L.take (i+1+k)) p;rw [BY] at hkl;unfold o9;rw [hD];dsimp only;have hkd:k<(s.L.drop (i+1)).length:=by rw [IN];omega
   rw [if_pos (by omega),aP hkd,aaa,Rn,al];cases hb:r5 p (s.L[i+1+k]).Path with
   |false=>rw [if_pos (by decide)];exact .mk (Rt hs hi hip O4 (by omega) hb)
   |true=>
    rw [if_neg (by decide),Rk,al,hr];simp only [if_true];obtain ⟨_,_,hr8,_⟩:=cQ hr;rw [wrap64 (x:=((aE p).length:Int)+1) (by omega) (by omega),wrap64 (by omega) (by omega)];have hsu:=Kf (p:=p) O4;have hkb:=xv (n:=s.L[i+1+k]) hr hp;have SK:jL (aE p) (aE (s.L[i+1+k]).Path)=true:=by unfold r5 at hb;rw [hp,hr] at hb;simpa using hb
    by_cases hlen:(aE (s.L[i+1+k]).Path).length=(aE p).length+1
    ·rw [if_pos (by omega),aP (by omega),if_pos (by simp only [aaH,aaI];omega),al];rw [hkb.2 ⟨SK,hlen⟩,if_pos rfl] at hsu;refine .mk ⟨?_,trivial⟩;rw [show i+1+(k+1)=i+1+k+1 by omega,hsu];unfold GD;rw [A4 hlen];rfl
    ·rw [if_neg (by omega),al];have:zI p s.L[i+1+k]=false:=by rw [AT];intro hh;exact hlen (hkb.1 hh).2
     rw [this,if_neg (by decide)] at hsu;refine .mk ⟨?_,trivial⟩;rw [show i+1+(k+1)=i+1+k+1 by omega,hsu];rfl
  ·unfold o9;rw [hD];dsimp only;rw [IN,if_neg (by omega)];refine .mk ?_;show jE (s.L.take (i+1+(s.L.length-(i+1)))) p=_;rw [List.take_of_length_le (by omega)]
 rw [cV,al]
theorem xw {s:aA}(hl:s.L.length<2^40)(p:List UInt8):sG (ch s) p=some (toR (eo s.L p).1,(eo s.L p).2):=by
 have sr:(ch s).L.length<2^40:=by show (s.L.map toR).length<_;rw [c8];exact hl
 unfold sG eo cu;rw [mC,al];cases hp:bn p with
 |false=>rfl
 |true=>
  rw [abQ _ _ sr,al];have hpp:(ch s).L.map (·.Path)=s.L.map (·.Path):=A3 s.L;rw [hpp];simp only [Bool.not_true,Bool.false_eq_true,if_false,if_true];by_cases h0:0<=mD (s.L.map (·.Path)) p
  ·have dK:=FL h0;rw [c8] at dK;rw [if_neg (by omega)];simp only [h0,if_true];have ai1:(mD (s.L.map (·.Path)) p).toNat<(ch s).L.length:=by show _<(s.L.map toR).length;rw [c8];exact dK
   rw [wh h0 ai1,List.getElem?_eq_getElem dK];have hg:(ch s).L[(mD (s.L.map (·.Path)) p).toNat]=toR s.L[(mD (s.L.map (·.Path)) p).toNat]:=aaj ..;rw [hg];rfl
  ·rw [if_pos (by omega)];simp only [h0,if_false];rfl
theorem FN (L:List af)(p:List UInt8):(eo L p).2=(cu L p).2:=by unfold eo;by_cases h:(cu L p).2=0<;>simp [h]
theorem T8 {s:aA}(hs:nm s.L)(hl:s.L.length<2^40)(p:List UInt8):An (ch s) p=some (nI s.L p):=by
 unfold An nI;rw [xw hl,al];show (if !decide ((eo s.L p).2=0) then _ else _)=_;rw [FN];by_cases h:(cu s.L p).2=0
 ·rw [decide_eq_true h,if_neg (by decide),VN hs hl,al,if_pos h]
 ·rw [decide_eq_false h,if_pos (by decide),if_neg h]
theorem XH (L:List af)(p:List UInt8):(nI L p).1.length<=L.length:=by
 unfold nI;by_cases h:(cu L p).2=0
 ·simp only [h,if_true];exact FM L p
 ·simp [h]
end Dn.S
