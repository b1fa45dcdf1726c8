import Derived.Test.YtbkodohojpchjaaGreatDoorDnPPath
/-
  Paths: their names. Conditions: none.
-/
open Go Dn
set_option linter.unusedVariables false
set_option linter.unusedSimpArgs false
namespace Dn.S
section
variable {c:UInt8}
theorem qK (l:List UInt8):bU c l≠[]:=by
 cases l with
 |nil=>simp [bU]
 |cons x l=>
  simp only [bU]
  split
  ·simp
  ·split<;>simp
theorem gz (l:List UInt8):bU c (c::l)=[]::bU c l:=by simp [bU]
theorem fD {x:UInt8} (h:x≠c) (l:List UInt8): ∃p r,bU c l=p::r∧bU c (x::l)=(x::p)::r:=by
 cases hs:bU c l with
 |nil=>exact absurd hs (qK l)
 |cons p r=>exact ⟨p,r,rfl,by simp [bU,h,hs]⟩
theorem zZ (l:List UInt8):(bU c l).flatMap (c::·)=c::l:=by
 induction l with
 |nil=>rfl
 |cons x l ih=>
  by_cases h:x=c
  ·subst h;rw [gz,List.flatMap_cons,ih];rfl
  ·obtain ⟨p,r,h1,h2⟩:=fD h l
   rw [h2,List.flatMap_cons]
   rw [h1,List.flatMap_cons] at ih
   simp only [List.cons_append,List.cons.injEq,true_and] at ih⊢
   exact ih
theorem VV (l:List UInt8): ∀x∈bU c l,c∉x:=by
 induction l with
 |nil=>intro x hx;simp [bU] at hx;subst hx;simp
 |cons y l ih=>
  intro x hx
  by_cases h:y=c
  ·subst h
   rw [gz] at hx
   rcases List.mem_cons.1 hx with rfl|hx
   ·simp
   ·exact ih x hx
  ·obtain ⟨p,r,h1,h2⟩:=fD h l
   rw [h2] at hx
   rw [h1] at ih
   rcases List.mem_cons.1 hx with rfl|hx
   ·have:=ih p (by simp)
    intro hm
    rcases List.mem_cons.1 hm with rfl|hm
    ·exact h rfl
    ·exact this hm
   ·exact ih x (by simp [hx])
theorem Sd {a:List UInt8} (ha:c∉a) (l:List UInt8):bU c (a++c::l)=a::bU c l:=by
 induction a with
 |nil=>exact gz l
 |cons x a ih=>
  have hx:x≠c:=by intro e;subst e;simp at ha
  have ha':c∉a:=fun h=>ha (by simp [h])
  obtain ⟨p,r,h1,h2⟩:=fD hx (a++c::l)
  rw [ih ha'] at h1
  cases h1
  exact h2
theorem OS {a:List UInt8} (ha:c∉a):bU c a=[a]:=by
 induction a with
 |nil=>rfl
 |cons x a ih=>
  have hx:x≠c:=by intro e;subst e;simp at ha
  have ha':c∉a:=fun h=>ha (by simp [h])
  obtain ⟨p,r,h1,h2⟩:=fD hx a
  rw [ih ha'] at h1
  cases h1
  exact h2
theorem OT {L:List (List UInt8)} (h0:L≠[]) (h: ∀x∈L,c∉x):bU c ((L.flatMap (c::·)).drop 1)=L:=by
 induction L with
 |nil=>exact absurd rfl h0
 |cons a L ih=>
  have ha:=h a (by simp)
  cases L with
  |nil=>simp [OS ha]
  |cons b L=>
   have ih:=ih (by simp) (fun x hx=>h x (by simp [hx]))
   simp only [List.flatMap_cons,List.cons_append,List.drop_succ_cons,List.drop_zero] at ih⊢
   rw [Sd ha,ih]
theorem vQ (l:List UInt8):(bU c l).length≤l.length+1:=by
 induction l with
 |nil=>simp [bU]
 |cons x l ih=>
  by_cases h:x=c
  ·subst h;rw [gz];simp;exact ih
  ·obtain ⟨p,r,h1,h2⟩:=fD h l
   rw [h2];rw [h1] at ih;simp at ih⊢;omega
theorem Mt (l:List UInt8): ∀x∈bU c l,x.length≤l.length:=by
 induction l with
 |nil=>intro x hx;simp [bU] at hx;subst hx;simp
 |cons y l ih=>
  intro x hx
  by_cases h:y=c
  ·subst h
   rw [gz] at hx
   rcases List.mem_cons.1 hx with rfl|hx
   ·simp
   ·have:=ih x hx;simp;omega
  ·obtain ⟨p,r,h1,h2⟩:=fD h l
   rw [h2] at hx
   rw [h1] at ih
   rcases List.mem_cons.1 hx with rfl|hx
   ·have:=ih p (by simp);simp;omega
   ·have:=ih x (by simp [hx]);simp;omega
theorem OU (l:List UInt8) (x:UInt8):bU c (l++[x])=if x=c then bU c l++[[]] else (bU c l).dropLast++[(bU c l).getLastD []++[x]]:=by
 induction l with
 |nil=>by_cases h:x=c<;>simp [bU,h]
 |cons y l ih=>
  rw [List.cons_append]
  by_cases hy:y=c
  ·subst hy
   rw [gz,gz,ih]
   split
   ·rfl
   ·cases hs:bU y l with
    |nil=>exact absurd hs (qK l)
    |cons p r=>simp [List.dropLast,List.getLastD,List.getLast?_cons_cons]
  ·obtain ⟨p,r,h1,h2⟩:=fD hy l
   obtain ⟨p',r',h3,h4⟩:=fD hy (l++[x])
   rw [h4,h2]
   rw [ih,h1] at h3
   split
   ·rename_i hx;rw [if_pos hx] at h3;simp only [List.cons_append,List.cons.injEq] at h3;rw [←h3.1,←h3.2];rfl
   ·rename_i hx
    rw [if_neg hx] at h3
    cases r with
    |nil=>simp at h3;rw [h3.2,←h3.1];rfl
    |cons q r=>
     simp only [List.dropLast_cons_cons,List.cons_append,List.cons.injEq] at h3
     rw [←h3.1,←h3.2]
     simp [List.getLastD,List.getLast?_cons_cons]
end
theorem nR {α:Type} {l:List (List α)} (h:l≠[]):l.dropLast++[l.getLastD []]=l:=by
 rw [List.getLastD_eq_getLast?,List.getLast?_eq_some_getLast h]
 exact List.dropLast_concat_getLast h
def aL (p:List UInt8):List (List UInt8):=if p=[47] then [] else bU 47 (p.drop 1)
def lW (p:List UInt8):Bool:=decide (p.head? =some 47)
def bk (p:List UInt8):Bool:=(lW p&&decide (p.length≤100))&&(decide ((aL p).length≤8)&&(aL p).all j6)
theorem Kv (p:List UInt8):il p ([47]:List UInt8)=some (if lW p then (p.drop 1,true) else (p,false)):=by
 unfold il gE gD
 simp only [Gt]
 cases p with
 |nil=>simp [lW,bd]
 |cons x r=>
  have e1:(([47]:List UInt8).length:Int)≤((x::r).length:Int):=by simp;omega
  rw [if_pos e1,if_pos ⟨by decide,by decide,e1⟩,aC]
  by_cases hx:x=47
  ·subst hx
   have e2:decide (List.drop (Int.toNat 0) (List.take (Int.toNat (([47]:List UInt8).length:Int)) (47::r))=([47]:List UInt8))=true:=by simp
   rw [e2]
   simp only [Bool.not_true,Bool.false_eq_true,if_false]
   rw [if_pos ⟨by decide,e1,Int.le_refl _⟩,aC]
   simp [lW]
  ·have e2:decide (List.drop (Int.toNat 0) (List.take (Int.toNat (([47]:List UInt8).length:Int)) (x::r))=([47]:List UInt8))=false:=by simp [hx]
   rw [e2]
   simp [lW,hx,aC]
theorem OV (s:List UInt8):lu s=some (!j6 s):=by
 unfold lu;rw [Sc];rfl
theorem Kw {l:List (List UInt8)} {f:List UInt8→Option Bool} {q:List UInt8→Bool} (hf: ∀s,f s=some (q s)) (hl:l.length<2^60):dy l f=some (l.any q):=by
 obtain ⟨r,e,hr⟩: ∃r,Loop (dL l f) 0=some r∧((r= .inl ()∧l.any q=false)∨((∃k:Nat,r= .inr (k:Int))∧l.any q=true)):=by
  refine bq.count (fun k=>(k:Int)) l.length (fun k=>(l.take k).any q=false) rfl rfl (fun k hk hp=> ?_) (fun hp=> ?_)
  ·unfold dL
   rw [if_pos (by omega),bx hk,hf,aC]
   cases hq:q l[k] with
   |true=>
    simp only [if_true]
    exact .mk (.inr ⟨⟨k,rfl⟩,List.any_eq_true.2 ⟨_,List.getElem_mem hk,hq⟩⟩)
   |false=>
    simp only [Bool.false_eq_true,if_false]
    rw [wrap64 (by omega) (by omega)]
    refine .mk ⟨by omega,?_⟩
    rw [take_succ hk,List.any_append,hp];simp [hq]
  ·unfold dL
   rw [if_neg (by omega)]
   rw [List.take_length] at hp
   exact .mk (.inl ⟨rfl,hp⟩)
 unfold dy fY
 rw [e]
 rcases hr with ⟨rfl,h⟩|⟨⟨k,rfl⟩,h⟩<;>simp only [aC,h]
 ·rfl
 ·simp
theorem YX (l:List (List UInt8)):(!l.any fun s=>!j6 s)=l.all j6:=by
 induction l with
 |nil=>rfl
 |cons a l ih=>simp only [List.any_cons,List.all_cons,Bool.not_or,Bool.not_not,ih]
theorem Gx (p:List UInt8):gn p=some (if lW p&&decide (p.length≤100) then (aL p,decide ((aL p).length≤8)&&(aL p).all j6) else ([],false)):=by
 unfold gn
 rw [Kv,aC]
 cases ha:lW p with
 |false=>simp [aC]
 |true=>
  simp only [if_true,Bool.not_true,Bool.false_eq_true,if_false,aC,Bool.true_and]
  by_cases hl:p.length≤100
  ·have e1:decide ((100:Int)<(p.length:Int))=false:=decide_eq_false (by omega)
   rw [e1]
   simp only [Bool.false_eq_true,if_false,hl,decide_true,if_true]
   cases p with
   |nil=>simp [lW] at ha
   |cons x r=>
    have hx:x=47:=by simpa [lW] using ha
    subst hx
    simp only [List.drop_succ_cons,List.drop_zero,aL]
    by_cases hr:r=[]
    ·subst hr;simp
    ·have Xk: ¬(47::r:List UInt8)=[47]:=by simp [hr]
     rw [if_neg hr,if_neg Xk]
     have hlen:=vQ (c:=47) r
     have BL:r.length≤99:=by simpa using hl
     unfold J6
     rw [Nat.ble_eq_true_of_le (by omega:r.length≤4294967280)]
     simp only [cond_true,aC]
     by_cases h8:(bU 47 r).length≤8
     ·rw [if_pos (by omega),Kw OV (by omega)]
      simp only [aC,YX,h8,decide_true,Bool.true_and]
     ·rw [if_neg (by omega)]
      simp only [aC,h8,decide_false,Bool.false_and]
  ·have e1:decide ((100:Int)<(p.length:Int))=true:=decide_eq_true (by omega)
   rw [e1]
   simp [hl]
theorem uC (p:List UInt8):jC p=some (bk p):=by
 unfold jC
 rw [Gx,aC]
 unfold bk
 split
 ·rename_i h;rw [h];rfl
 ·rename_i h;rw [Bool.not_eq_true] at h;rw [h];rfl
theorem Mu (p:List UInt8):ou p=some (if bk p then (aL p,0) else ([],13)):=by
 unfold ou
 rw [Gx,aC]
 unfold bk
 cases lW p&&decide (p.length≤100) with
 |false=>simp
 |true=>
  simp only [if_true,Bool.true_and]
  cases decide ((aL p).length≤8)&&(aL p).all j6<;>simp
theorem VW {R:Type} (b:UInt8) (K:List UInt8→Option R):Og [(b.toNat:Int)] K=K [b]:=by
 unfold Og
 simp [isByte]
theorem I8 (p:List UInt8) (hl:p.length≤1000):yh p=some (if lW p then aL p else [],lW p):=by
 unfold yh
 cases p with
 |nil=>simp [lW,aC]
 |cons x r=>
  have cT: ¬(((x::r).length:Int)=0):=by simp;omega
  have da:(0:Int)<((x::r).length:Int):=by simp
  rw [if_neg cT,if_pos ⟨by decide,da⟩,aC]
  have Xt:((x::r:List UInt8).getD (Int.toNat 0) 0)=x:=rfl
  rw [Xt]
  by_cases hx:x=47
  rotate_left
  ·have NB: ¬((x.toNat:Int)=47):=by
    intro e;apply hx;apply UInt8.toNat_inj.1
    show x.toNat=47
    omega
   simp [NB,lW,hx]
  subst hx
  have e0:(!decide ((((47:UInt8).toNat:Nat):Int)=47))=false:=by decide
  rw [e0]
  simp only [Bool.false_eq_true,if_false]
  have VS:lW (47::r)=true:=by simp [lW]
  rw [VS]
  simp only [if_true,aL]
  by_cases hr:r=[]
  ·subst hr;simp
  have Xk: ¬(47::r:List UInt8)=[47]:=by simp [hr]
  rw [if_neg Xk,if_neg Xk]
  have BL:r.length≤999:=by simpa using hl
  have fT:Loop (ua (47::r)) (([]:List (List UInt8)),([]:List UInt8),1)=some ((bU 47 r).dropLast,(bU 47 r).getLastD []):=by
   refine bq.eq (bq.count (fun k=>((bU 47 (r.take k)).dropLast,(bU 47 (r.take k)).getLastD [],((k+1:Nat):Int))) r.length (fun _=>True) rfl trivial (fun k hk _=> ?_) (fun _=> ?_))
   ·unfold ua
    dsimp only
    have uV:(0:Int)≤((k+1:Nat):Int)∧((k+1:Nat):Int)<(((47:UInt8)::r).length:Int):=by simp;omega
    rw [if_pos uV.2,if_pos uV]
    have mf:((47::r:List UInt8).getD (Int.toNat ((k+1:Nat):Int)) 0)=r[k]:=by
     rw [Int.toNat_natCast,List.getD_eq_getElem?_getD,List.getElem?_cons_succ,List.getElem?_eq_getElem hk];rfl
    rw [mf,wrap64 (by omega) (by omega)]
    have hsn:=OU (c:=47) (r.take k) r[k]
    rw [←take_succ hk] at hsn
    have agX:=vQ (c:=47) (r.take k)
    have apt:(r.take k).length≤999:=by rw [List.length_take];omega
    have ak6:=qK (c:=47) (r.take k)
    have JT:(bU 47 (r.take k)).dropLast++[(bU 47 (r.take k)).getLastD []]=bU 47 (r.take k):=by
     exact nR ak6
    by_cases hc:r[k]=47
    ·have hc':((r[k].toNat:Nat):Int)=47:=by rw [hc];rfl
     rw [if_pos hc',if_pos (by simp only [List.length_dropLast,List.length_cons,List.length_nil];omega),aC]
     rw [if_pos hc] at hsn
     refine .mk ⟨?_,trivial⟩
     rw [JT,hsn]
     simp [List.getLastD_eq_getLast?]
    ·have hc': ¬((r[k].toNat:Nat):Int)=47:=by
      intro e;apply hc;apply UInt8.toNat_inj.1
      show r[k].toNat=47
      omega
     have hle:((bU 47 (r.take k)).getLastD []).length≤999:=by
      have:=Mt (c:=47) (r.take k) ((bU 47 (r.take k)).getLastD []) (by rw [←JT];simp)
      omega
     rw [if_neg hc',if_pos uV,VW,if_pos (by simp only [List.length_cons,List.length_nil];omega),aC]
     rw [if_neg hc] at hsn
     refine .mk ⟨?_,trivial⟩
     rw [hsn]
     simp [List.getLastD_eq_getLast?]
   ·unfold ua
    dsimp only
    rw [if_neg (by simp),List.take_length]
    exact .mk rfl
  rw [fT,aC]
  have agX:=vQ (c:=47) r
  rw [if_pos (by simp only [List.length_dropLast,List.length_cons,List.length_nil];omega)]
  have JT:(bU 47 r).dropLast++[(bU 47 r).getLastD []]=bU 47 r:=by
   exact nR (qK r)
  rw [JT]
  rfl
end Dn.S
