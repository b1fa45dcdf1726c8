import Derived.Test.YtmdlghpieagfhaaGreatDnC
/-
  A function's body in which a map is gone through, or a label stands. Conditions: none.
-/
set_option linter.unusedSimpArgs false
set_option linter.unusedVariables false
namespace Dn
open Go
section
variable {P:Program} {c:Ctx} {R:Type} {r:R}
theorem L9 {a b:Code} {l:Nat} (h:R3 a b=some l):a= .goto l∧b= .skip:=by
 unfold R3 at h
 split at h
 ·cases h;exact ⟨rfl,rfl⟩
 ·cases h
theorem Sc (hG:Good P c) (hD:DR P c) {l:Nat} {G:St→Option R}: ∀(code:Code) {Z:bB} {e:Env} {st:St} {a:Act} {w:World} {K:Nat→St→Option R} {Q:Exit→Act→World→Prop},bP c Z e st a w→Ee c l G code st K=some r→
 (∀n e' bL a' w',bP c Z e' bL a' w'→Trans Z.In e.φ w e'.φ w'→K n bL=some r→Q (jK n) a' w')→
 (∀e' bL a' w',bP c Z e' bL a' w'→Trans Z.In e.φ w e'.φ w'→G bL=some r→Q (.goto l) a' w')→code.wp P Q a w:=by
 intro code
 induction code with
 |seq x y ihx V3=>
  intro Z e st a w K Q h hK hQ hJ
  simp only [Ee] at hK
  refine wp_seq (ihx h hK ?_ ?_)
  ·intro n e1 ca a1 w1 h1 t1 lI
   by_cases hn:n=0
   ·subst hn
    exact V3 h1 lI (fun n e2 cS a2 w2 h2 t2 tu=>hQ n e2 cS a2 w2 h2 (t1.trans t2) tu) (fun e2 cS a2 w2 h2 t2 tu=>hJ e2 cS a2 w2 h2 (t1.trans t2) tu)
   ·rw [sV hn]
    have:Nat.beq n 0=false:=by rw [dD];simp [hn]
    simp only [this,cond_false] at lI
    exact hQ n e1 ca a1 w1 h1 t1 lI
  ·intro e1 ca a1 w1 h1 t1 lI
   exact hJ e1 ca a1 w1 h1 t1 lI
 |cond x y z _ _=>
  intro Z e st a w K Q h hK hQ hJ
  simp only [Ee] at hK
  split at hK
  ·rename_i l' hg
   obtain ⟨rfl,rfl⟩:=L9 hg
   cases hb:Nat.beq l' l with
   |false=>rw [hb] at hK;cases hK
   |true=>
    rw [hb] at hK
    simp only [cond_true] at hK
    have hb:=Nat.eq_of_beq_eq_true hb
    subst hb
    obtain ⟨hx,_⟩:=h.eval x
    split at hK
    ·rename_i v hv
     rw [hv] at hx
     refine wp_cond (vC hx) ?_
     cases v with
     |true=>exact wp_goto (hJ e st a w h (.refl _ _ _) hK)
     |false=>exact wp_skip (hQ 0 e st a w h (.refl _ _ _) hK)
    ·cases hK
  ·exact rI hG hD _ h hK hQ
 |label l'=>
  intro Z e st a w K Q h hK hQ hJ
  exact wp_label (hQ 0 e st a w h (.refl _ _ _) hK)
 |_=>intro Z e st a w K Q h hK hQ hJ;simp only [Ee] at hK;exact rI hG hD _ h hK hQ
theorem Sd (hG:Good P c) (hD:DR P c): ∀(code:Code) {Z:bB} {e:Env} {st:St} {a:Act} {w:World} {K:Nat→St→Option R} {Q:Exit→Act→World→Prop},bP c Z e st a w→B5 c code st K=some r→
 (∀n e' bL a' w',bP c Z e' bL a' w'→Trans Z.In e.φ w e'.φ w'→K n bL=some r→Q (jK n) a' w')→code.wp P Q a w:=by
 intro code
 induction code with
 |seq x y _ V3=>
  intro Z e st a w K Q h hK hQ
  simp only [B5] at hK
  have nxt: ∀n e1 ca a1 w1,bP c Z e1 ca a1 w1→Trans Z.In e.φ w e1.φ w1→(bif Nat.beq n 0 then B5 c y ca K else K n ca)=some r→Exit.then (y.wp P Q) Q (jK n) a1 w1:=by
   intro n e1 ca a1 w1 h1 t1 lI
   by_cases hn:n=0
   ·subst hn
    exact V3 h1 lI (fun n e2 cS a2 w2 h2 t2 tu=>hQ n e2 cS a2 w2 h2 (t1.trans t2) tu)
   ·rw [sV hn]
    have:Nat.beq n 0=false:=by rw [dD];simp [hn]
    simp only [this,cond_false] at lI
    exact hQ n e1 ca a1 w1 h1 t1 lI
  split at hK
  ·rename_i q hq
   exact wp_seq (XS hG hD hq h hK nxt)
  ·exact wp_seq (rI hG hD _ h hK nxt)
 |scope b _=>
  intro Z e st a w K Q h hK hQ
  simp only [B5] at hK
  split at hK
  ·rename_i rest hf
   have hx: ∀(J:Act→World→Prop) n (a':Act) (w':World),Q (jK n) a' w'→Exit.jump 0 J Q (jK n) a' w':=by
    intro J n a' w' hq
    match n,hq with
    |0,hq=>exact hq
    |1,hq=>exact hq
    |n+2,hq=>exact hq
   refine wp_scope_jumps 0 (fun a' w'=> ∃e' bL,bP c Z e' bL a' w'∧Trans Z.In e.φ w e'.φ w'∧ju c rest R bL K=some r) (fun _ _=>0) hf ?_ ?_
   ·refine Sc hG hD b h hK (fun n e' bL a' w' h' t' VU=>hx _ n a' w' (hQ n e' bL a' w' h' t' VU)) ?_
    intro e' bL a' w' h' t' VU
    exact ⟨rfl,e',bL,h',t',VU⟩
   ·rintro a1 w1 ⟨e1,ca,h1,t1,lI⟩
    refine rI hG hD rest h1 lI ?_
    intro n e' bL a' w' h' t' VU
    exact hx _ n a' w' (hQ n e' bL a' w' h' (t1.trans t') VU)
  ·cases hK
 |_=>intro Z e st a w K Q h hK hQ;simp only [B5] at hK;exact rI hG hD _ h hK hQ
end
theorem cR.J0 {P:Program} {c c':Ctx} {g:Nat→List MV→Option MV} {n:Nat} {fn:Func} {cG:List (List Kd)} (h:cR P c g) (hl:xy c c') (PU:c'.g=g) (oQ:jI P c.ti) (gu:HE P c.ti) (Dh: ∀t k,c.fk t=some k→P.underlying t=some (.float k)) (IW:tL P c) (Cz:P.follows .mixedOrders=true) (Cy:pk P c)
 (hf:P.funcs[n]? =some fn) (hh:xV c' n fn cG=true) (r8: ∀f,c.key f=f) {fresh:Option Nat} (Cu:yE c' n fn fresh=true):cR P c (bD n (Dn.J0 c' cG fresh fn) g):=by
 have hG:Good P c':=by
  refine ⟨by rw [hl.ti];exact oQ,by rw [hl.ti];exact gu,fun f ms r hr=> ?_,by rw [hl.fk];exact Dh,fun t s hs=>IW t s ?_⟩
  ·rw [PU,hl.key] at hr
   exact (h.all f ms r hr).j9 hl
  ·rw [←hs];unfold r4 Ctx.tv;rw [hl.mt,hl.ti]
 refine h.add (fun f ms r hk hr=> ?_)
 rw [r8] at hk
 subst hk
 simp only [xV,Bool.and_eq_true,Bool.not_eq_true'] at hh
 obtain ⟨⟨⟨h1,h2⟩,h3⟩,h4⟩:=hh
 have hD:=Ec hG Cz (Cy.j9 hl)
 exact (JI (fun b {r Z e st a w K Q} h hK hQ=>Sd hG hD b h hK hQ) hG hf h1 (Nat.eq_of_beq_eq_true h2) (Nat.le_of_ble_eq_true h3) (by rw [hl.key,r8];exact h4) (by rw [hl.key,r8];exact GO Cu) hr).j9 hl.symm
theorem cR.fnX {P:Program} {c c':Ctx} {g:Nat→List MV→Option MV} {n:Nat} {fn:Func} {cG:List (List Kd)} {F:List MV→Option MV} (h:cR P c g) (hl:xy c c') (PU:c'.g=g) (oQ:jI P c.ti) (gu:HE P c.ti) (Dh: ∀t k,c.fk t=some k→P.underlying t=some (.float k)) (IW:tL P c) (Cz:P.follows .mixedOrders=true) (Cy:pk P c)
 (hf:P.funcs[n]? =some fn) (hh:xV c' n fn cG=true) (r8: ∀f,c.key f=f) {fresh:Option Nat} (Cu:yE c' n fn fresh=true) (hF: ∀{ms r},F ms=some r→Dn.J0 c' cG fresh fn ms=some r):cR P c (bD n F g):=by
 have hb:=cR.J0 h hl PU oQ gu Dh IW Cz Cy hf hh r8 Cu
 refine h.add (fun f ms r hk hr=> ?_)
 refine hb.all f ms r ?_
 unfold bD
 rw [hk]
 simp [hF hr]
theorem Se {α ρ ρ':Type} {e:α→MV} {f:ρ'→ρ} {K:MV→Option (Sum Unit ρ)} {K':α→Option (Sum Unit ρ')} {d:Option ρ} {d':Option ρ'} {l:List MV} {M:List α} (hl:l=M.map e) (hd:Sm f d d') (h: ∀x,Sm (Sum.map id f) (K (e x)) (K' x)):
 Sm f (tS K d l) (tS K' d' M):=by
 subst hl
 have hg: ∀x,vL (K (e x))=vL (K' x):=by
  intro x
  rw [h x]
  cases K' x with
  |none=>rfl
  |some y=>cases y<;>rfl
 unfold Sm
 induction M with
 |nil=>exact hd
 |cons x M ih=>
  have hx:=h x
  unfold Sm at hx
  simp only [List.map_cons,tS,hx]
  cases hk:K' x with
  |none=>rfl
  |some y=>
   cases y with
   |inl u=>exact ih
   |inr r=>
    simp only [Option.map_some,Sum.map_inr,List.all_map]
    have:(M.all ((fun y=>vL (K y))∘e))=M.all fun y=>vL (K' y):=by
     congr 1
     funext y
     exact hg y
    rw [this]
    cases M.all fun y=>vL (K' y)<;>rfl
theorem X0 {A B:Type} {g:B→A} {m:MV} {K:List UInt8→Int→Option A} {K':List UInt8→Int→Option B} (h: ∀key n,Sm g (K key n) (K' key n)):Sm g (L3 m K) (L3 m K'):=by
 have hN: ∀{l:List MV} {X:Option A} {X':Option B},Sm g X X'→Sm g (gN l X) (gN l X'):=by intro l X X' h;cases l<;>first|exact h|rfl
 have hC: ∀{l:List MV} {X:MV→List MV→Option A} {X':MV→List MV→Option B},(∀a b,Sm g (X a b) (X' a b))→Sm g (gC l X) (gC l X'):=by intro l X X' h;cases l<;>first|exact h _ _|rfl
 unfold L3
 cases m<;>first|rfl|skip
 refine hC fun ka r=> ?_
 cases ka<;>first|rfl|skip
 refine hC fun k0 kr=>hN ?_
 cases k0<;>first|rfl|skip
 refine hC fun v0 vr=>hN ?_
 cases v0<;>first|rfl|skip
 rename_i k n
 simp only [gI]
 cases decide (k=IntKind.i64)<;>first|rfl|exact h _ _
theorem NJ {A B:Type} {g:B→A} {p q:Prop} [Decidable p] [Decidable q] {X:Option A} {X':Option B} (e:p↔q) (h1:Sm g X X'):Sm g (cb (decide p) X) (if q then X' else none):=by
 by_cases hp:p
 ·rw [if_pos (e.1 hp),decide_eq_true hp];exact h1
 ·rw [if_neg (fun h=>hp (e.2 h)),decide_eq_false hp];rfl
theorem Ma {A B:Type} {g:B→A} {T:Option B} {x:List MV} {K:List MV→Option A} (h:Sm g (K x) T):Sm g (Tr (.clip x) K) T:=h
@[reducible] def Wm {α : Type} (f : α → MV) (l : List α) : MV := .clip (l.map f)
end Dn
/-
  Reasoning about functions on typed values. Conditions: none.
-/
set_option linter.unusedVariables false
namespace Dn
open Go
section
variable {α R:Type}
theorem cW {l:List α} {k:Nat} (h:k<l.length) (K:α→Option R):ix l (k:Int) K=K l[k]:=by
 simp [ix,h]
theorem YH {l:List α} {i:Int} (h0:0≤i) (h:i.toNat<l.length) (K:α→Option R):ix l i K=K l[i.toNat]:=by
 simp [ix,h,h0]
theorem IE {l:List α} (h:0<l.length) (K:α→Option R):ix l 0 K=K l[0]:=by simp [ix,h]
@[simp] theorem acY {A : Type} (x : Option A) : bd x (fun a => some a) = x := by cases x <;> rfl
end
def bT {A:Type} (x:Option A) (Q:A→Prop):Prop:= ∃a,x=some a∧Q a
section
variable {A B α σ ρ:Type}
theorem bT.mk {a:A} {Q:A→Prop} (h:Q a):bT (some a) Q:=⟨a,rfl,h⟩
theorem bT.of {x:Option A} {a:A} {Q:A→Prop} (e:x=some a) (h:Q a):bT x Q:=⟨a,e,h⟩
theorem bT.bd {x:Option A} {K:A→Option B} {P:A→Prop} {Q:B→Prop} (h:bT x P) (hk: ∀a,P a→bT (K a) Q):bT (bd x K) Q:=by
 obtain ⟨a,rfl,hp⟩:=h;exact hk a hp
theorem bT.imp {x:Option A} {P Q:A→Prop} (h:bT x P) (LP: ∀a,P a→Q a):bT x Q:=by
 obtain ⟨a,e,hp⟩:=h;exact ⟨a,e,LP a hp⟩
theorem bT.ix {l:List α} {k:Nat} {K:α→Option A} {Q:A→Prop} (h:k<l.length) (hk:bT (K l[k]) Q):bT (ix l (k:Int) K) Q:=by rw [cW h];exact hk
theorem bT.eq {x:Option A} {a:A} (h:bT x (· =a)):x=some a:=by obtain ⟨b,e,rfl⟩:=h;exact e
variable {body:σ→Option (Sum σ ρ)}
theorem bT.loop (I:σ→Prop) (μ:σ→Nat) {Q:ρ→Prop} {s:σ} (hs:I s) (h: ∀s,I s→bT (body s) fun x=>match x with| .inl s'=>I s'∧μ s'<μ s| .inr r=>Q r):bT (Loop body s) Q:=by
 refine R5 I μ Q (fun s hs=> ?_) hs
 obtain ⟨x,e,hx⟩:=h s hs
 cases x with
 |inl s'=>exact .inl ⟨s',e,hx⟩
 |inr r=>exact .inr ⟨r,e,hx⟩
theorem bT.count (S:Nat→σ) (n:Nat) {Q:ρ→Prop} (P:Nat→Prop) {s:σ} (e:s=S 0) (h0:P 0) (h: ∀k,k<n→P k→bT (body (S k)) fun x=>match x with| .inl s'=>s'=S (k+1)∧P (k+1)| .inr r=>Q r)
 (he:P n→bT (body (S n)) fun x=>match x with| .inl _=>False| .inr r=>Q r):bT (Loop body s) Q:=by
 subst e
 refine J4 S n Q P h0 (fun k hk hp=> ?_) (fun hp=> ?_)
 ·obtain ⟨x,e,hx⟩:=h k hk hp
  cases x with
  |inl s'=>obtain ⟨rfl,hx⟩:=hx;exact .inl ⟨e,hx⟩
  |inr r=>exact .inr ⟨r,e,hx⟩
 ·obtain ⟨x,e,hx⟩:=he hp
  cases x with
  |inl s'=>exact hx.elim
  |inr r=>exact ⟨r,e,hx⟩
end
theorem wrap64 {x:Int} (h1: -9223372036854775808≤x) (h2:x≤9223372036854775807):IntKind.wrap .i64 x=x:=U6 h1 h2
end Dn
/-
  Functions of the library, on typed values. Conditions: none.
-/
set_option linter.unusedVariables false
namespace Dn
open Go
def IF (x y:Int):Int:=if x<y then-1 else if y<x then 1 else 0
def iQ {α:Type} (key:α→Int) (L:List α) (s:Int):Nat:=L.countP (fun e=>decide (key e<s))
def qg {α:Type} (key:α→Int) (L:List α) (s:Int):Bool:=L.any fun e=>decide (key e=s)
def qh {α:Type} (key:α→Int) (L:List α):Prop:=L.Pairwise fun a b=>key a<key b
section
variable {α τ:Type} {key:α→Int}
theorem YI {L:List α} {s:Int} {p:Nat} (hp:p≤L.length) (h1: ∀k (hk:k<L.length),k<p→key L[k]<s) (h2: ∀k (hk:k<L.length),p≤k→s≤key L[k]):iQ key L s=p:=by
 have h3:(L.take p).countP (fun e=>decide (key e<s))=(L.take p).length:=by
  rw [List.countP_eq_length]
  intro a ha
  obtain ⟨k,hk,rfl⟩:=List.mem_iff_getElem.1 ha
  have IU:k<p:=by rw [List.length_take] at hk;omega
  rw [List.getElem_take]
  exact decide_eq_true (h1 k (by omega) IU)
 have h4:(L.drop p).countP (fun e=>decide (key e<s))=0:=by
  rw [List.countP_eq_zero]
  intro a ha
  obtain ⟨k,hk,rfl⟩:=List.mem_iff_getElem.1 ha
  rw [List.length_drop] at hk
  rw [List.getElem_drop]
  have:=h2 (p+k) (by omega) (by omega)
  simp;omega
 have h5:iQ key L s=(L.take p++L.drop p).countP (fun e=>decide (key e<s)):=by rw [List.take_append_drop];rfl
 rw [h5,List.countP_append,h3,h4,List.length_take]
 omega
theorem qh.lt {L:List α} (hs:qh key L) {i j:Nat} (hj:j<L.length) (h:i<j):key (L[i]'(by omega))<key L[j]:=List.pairwise_iff_getElem.1 hs i j (by omega) hj h
theorem qh.le {L:List α} (hs:qh key L) {i j:Nat} (hj:j<L.length) (h:i≤j):key (L[i]'(by omega))≤key L[j]:=by
 rcases Nat.lt_or_eq_of_le h with h|h
 ·exact Int.le_of_lt (hs.lt hj h)
 ·subst h;exact Int.le_refl _
theorem za (L:List α) (s:Int):iQ key L s≤L.length:=List.countP_le_length
theorem qh.lb {L:List α} (hs:qh key L) (s:Int):(∀k (hk:k<L.length),k<iQ key L s→key L[k]<s)∧(∀k (hk:k<L.length),iQ key L s≤k→s≤key L[k]):=by
 have: ∃p,p≤L.length∧(∀k (hk:k<L.length),k<p→key L[k]<s)∧(∀k (hk:k<L.length),p≤k→s≤key L[k]):=by
  induction L with
  |nil=>exact ⟨0,Nat.le_refl _,fun k hk=>by simp at hk,fun k hk=>by simp at hk⟩
  |cons a l ih=>
   have zg:=List.pairwise_cons.1 hs
   by_cases ha:key a<s
   ·obtain ⟨p,h1,h2,h3⟩:=ih zg.2
    refine ⟨p+1,by simp;omega,fun k hk hkp=> ?_,fun k hk hkp=> ?_⟩
    ·cases k with
     |zero=>exact ha
     |succ k=>exact h2 k (by simpa using hk) (by omega)
    ·cases k with
     |zero=>omega
     |succ k=>exact h3 k (by simpa using hk) (by omega)
   ·refine ⟨0,Nat.zero_le _,fun k hk hkp=>by omega,fun k hk _=> ?_⟩
    cases k with
    |zero=>simp;omega
    |succ k=>
     have:=zg.1 (l[k]'(by simpa using hk)) (List.getElem_mem _)
     simp only [List.getElem_cons_succ];omega
 obtain ⟨p,h1,h2,h3⟩:=this
 rw [YI h1 h2 h3]
 exact ⟨h2,h3⟩
theorem qh.has {L:List α} (hs:qh key L) (s:Int):qg key L s=true↔ ∃h:iQ key L s<L.length,key L[iQ key L s]=s:=by
 obtain ⟨h1,h2⟩:=hs.lb s
 unfold qg
 rw [List.any_eq_true]
 constructor
 ·rintro ⟨x,hx,he⟩
  obtain ⟨k,hk,rfl⟩:=List.mem_iff_getElem.1 hx
  have he:key L[k]=s:=by simpa using he
  have Oq:iQ key L s≤k:=by
   refine Nat.le_of_not_lt fun du=> ?_
   have:=h1 k hk du;omega
  have hl:iQ key L s<L.length:=by omega
  refine ⟨hl,?_⟩
  have:=h2 _ hl (Nat.le_refl _)
  have:=hs.le hk Oq
  omega
 ·rintro ⟨h,he⟩
  exact ⟨_,List.getElem_mem h,decide_eq_true he⟩
theorem AJ {L:List α} {s:Int}:qg key L s=true↔ ∃x∈L,key x=s:=by simp [qg]
noncomputable def bsL (x:List α) (target:τ) (cmp:α→τ→Option Int) (st:Int×Int):Option ((Int×Int)⊕Int):=
 if st.1<st.2 then
 if (0:Int)≤1 then
 ix x (IntKind.wrap .i64 (Int.fdiv (IntKind.wrap .u64 (IntKind.wrap .i64 (st.1+st.2))) (2^min (Int.toNat 1) (IntKind.bits .u64)))) fun y=>
 bd (cmp y target) fun rA=>
 bd (
  if rA<0 then
  some (IntKind.wrap .i64 ((IntKind.wrap .i64 (Int.fdiv (IntKind.wrap .u64 (IntKind.wrap .i64 (st.1+st.2))) (2^min (Int.toNat 1) (IntKind.bits .u64))))+1),st.2)
  else
  some (st.1,IntKind.wrap .i64 (Int.fdiv (IntKind.wrap .u64 (IntKind.wrap .i64 (st.1+st.2))) (2^min (Int.toNat 1) (IntKind.bits .u64)))):Option (Int×Int)) fun w1=>
 some (.inl (w1.1,w1.2))
 else none
 else
 some (.inr st.1)
noncomputable def bsearch (x:List α) (target:τ) (cmp:α→τ→Option Int):Option (Int×Bool):=
 bd (Loop (bsL x target cmp) (0,(x.length:Int))) fun w=>
 bd (
  if w<(x.length:Int) then
  ix x w fun y1=>
  bd (cmp y1 target) fun aY=>
  some (w,decide (aY=0))
  else
  some (w,false):Option (Int×Bool)) fun w2=>
 some (w2.1,w2.2)
theorem Mw {L:List α} {s:Int} {cmp:α→Int→Option Int} (hs:qh key L) (hl:L.length<2^60) (hc: ∀a,cmp a s=some (IF (key a) s)):bsearch L s cmp=some ((iQ key L s:Int),qg key L s):=by
 obtain ⟨sP,sH⟩:=hs.lb s
 have hle:=za (key:=key) L s
 have wJ:Loop (bsL L s cmp) (0,(L.length:Int))=some (iQ key L s:Int):=by
  refine bT.eq (bT.loop (fun st=> ∃i j:Nat,st=((i:Int),(j:Int))∧i≤iQ key L s∧iQ key L s≤j∧j≤L.length) (fun st=>(st.2-st.1).toNat) ⟨0,L.length,rfl,Nat.zero_le _,hle,Nat.le_refl _⟩ ?_)
  rintro st ⟨i,j,rfl,hi,hj,Fz⟩
  unfold bsL
  by_cases du:i<j
  ·have hm:(i+j)/2<L.length:=by omega
   simp only [show ((i:Int)<(j:Int)) by omega,if_true,show ((0:Int)≤1) by decide,XX (by omega:i+j<2^62),cW hm,hc,bl]
   by_cases hlb:(i+j)/2<iQ key L s
   ·have hk:=sP _ hm hlb
    have:IF (key L[(i+j)/2]) s= -1:=by simp [IF,hk]
    simp only [this,show ((-1:Int)<0) by decide,if_true,bl]
    rw [wrap64 (by omega) (by omega)]
    exact .mk ⟨⟨(i+j)/2+1,j,by simp,by omega,hj,Fz⟩,by omega⟩
   ·have hk:=sH _ hm (by omega)
    have: ¬IF (key L[(i+j)/2]) s<0:=by unfold IF;rw [if_neg (by omega)];split<;>omega
    simp only [this,if_false,bl]
    exact .mk ⟨⟨i,(i+j)/2,rfl,hi,by omega,by omega⟩,by omega⟩
  ·simp only [show¬((i:Int)<(j:Int)) by omega,if_false]
   exact .mk (by show (i:Int)=(iQ key L s:Int);omega)
 unfold bsearch
 rw [wJ]
 simp only [bl]
 by_cases du:iQ key L s<L.length
 ·simp only [show ((iQ key L s:Int)<(L.length:Int)) by omega,if_true,cW du,hc,bl]
  have h3:=sH _ du (Nat.le_refl _)
  have:decide (IF (key L[iQ key L s]) s=0)=qg key L s:=by
   unfold IF
   rw [if_neg (by omega)]
   by_cases he:key L[iQ key L s]=s
   ·rw [if_neg (by omega),decide_eq_true rfl,(hs.has s).2 ⟨du,he⟩]
   ·rw [if_pos (by omega),decide_eq_false (by decide)]
    symm;rw [Bool.eq_false_iff]
    intro hh
    obtain ⟨_,hh⟩:=(hs.has s).1 hh
    exact he hh
  rw [this]
 ·simp only [show¬((iQ key L s:Int)<(L.length:Int)) by omega,if_false,bl]
  have:qg key L s=false:=by
   rw [Bool.eq_false_iff]
   intro hh
   obtain ⟨hh,_⟩:=(hs.has s).1 hh
   exact du hh
  rw [this]
def acZ (key:α→Int) (L:List α) (a:α):List α:=L.take (iQ key L (key a))++[a]++L.drop (iQ key L (key a))
theorem Mx {L:List α} {a:α} {ZD:Nat} (hb:(L.length+1) *ZD≤2^46):xg ZD L (iQ key L (key a):Int) [a]=some (acZ key L a):=by
 unfold xg
 rw [if_pos]
 ·rfl
 ·exact ⟨by omega,by simpa using za L _,by simp,by simpa using hb⟩
theorem qx {L:List α} {ZD:Nat} (h:L.length *ZD≤2^46):tU ZD L=some L:=if_pos h
end
section
variable {α ρ:Type}
end
end Dn
/-
  Maps as lists of entries: what is there behind a store. Conditions: none.
-/
set_option linter.unusedVariables false
namespace Dn
open Go
theorem uD (es:List MV) (ks:List MV):b8 es ks≤es.length:=by
 rw [dR];have:=zF (es.map iF) ks;simpa using this
theorem AK {gw:List (List MV)} {ks GB:List MV} (h:dK GB ks=false):eH (gw++[GB]) ks=if eH gw ks<gw.length then eH gw ks else gw.length+1:=by
 induction gw with
 |nil=>simp [eH,h]
 |cons q r ih=>
  simp only [List.cons_append,eH,List.length_cons]
  rcases Bool.eq_false_or_eq_true (dK q ks) with hm|hm
  ·simp [hm]
  ·have:=zF r ks
   simp only [hm,cond_false]
   by_cases hl:eH r ks<r.length
   ·simp [hl,ih]
   ·simp [hl,ih]
theorem BA {gw:List (List MV)} {ks:List MV} (hr:dK ks ks=true) (h:eH gw ks=gw.length):eH (gw++[ks]) ks=gw.length:=by
 induction gw with
 |nil=>simp [eH,hr]
 |cons q r ih=>
  simp only [List.cons_append,eH,List.length_cons] at h⊢
  cases hm:dK q ks with
  |true=>simp [hm] at h
  |false=>
   simp only [hm,cond_false] at h⊢
   rw [ih (by omega)]
theorem KE {gw:List (List MV)} {ks:List MV} (h:eH gw ks<gw.length):gw[eH gw ks]? =some ks:=by
 obtain ⟨q,hq⟩: ∃q,gw[eH gw ks]? =some q:=⟨_,List.getElem?_eq_getElem h⟩
 rw [hq,DC hq]
theorem Fl (ks:List MV) (v:MV):iF (.dr [.agg ks,v])=ks:=rfl
def xE (es ks:List MV) (z v:MV):List MV:=qy (lv es ks z) (b8 es ks) v
theorem BB {es ks:List MV} {z v:MV}:(xE es ks z v).map iF=if b8 es ks<es.length then es.map iF else es.map iF++[ks]:=by
 have hle:=uD es ks
 unfold xE lv
 rw [dD]
 by_cases h:b8 es ks=es.length
 ·simp only [h,decide_true,cond_true]
  unfold qy
  simp [Fl]
 ·have du:b8 es ks<es.length:=by omega
  simp only [h,decide_false,cond_false,du,if_true]
  unfold qy
  rw [List.getElem?_eq_getElem du]
  simp only
  apply List.ext_getElem?
  intro i
  rw [List.getElem?_map,List.getElem?_map,List.getElem?_set]
  by_cases hi:b8 es ks=i
  ·subst hi;simp [du,Fl]
  ·simp [hi]
theorem Vo {es ks:List MV} {z v:MV}:(xE es ks z v)[b8 es ks]? =some (.dr [.agg ks,v]):=by
 have hle:=uD es ks
 unfold xE lv
 rw [dD]
 by_cases h:b8 es ks=es.length
 ·simp only [h,decide_true,cond_true]
  unfold qy
  simp [Fl]
 ·have du:b8 es ks<es.length:=by omega
  simp only [h,decide_false,cond_false]
  unfold qy
  rw [List.getElem?_eq_getElem du]
  have hk:iF es[b8 es ks]=ks:=by
   have h1:(es.map iF)[eH (es.map iF) ks]? =some (iF es[b8 es ks]):=by
    rw [←dR,List.getElem?_map,List.getElem?_eq_getElem du];rfl
   exact DC h1
  simp [du,hk]
theorem My {es ks:List MV} {z v:MV} {i:Nat} (hi:i<es.length) (dt:i≠b8 es ks):(xE es ks z v)[i]? =es[i]? :=by
 have hle:=uD es ks
 unfold xE lv
 rw [dD]
 by_cases h:b8 es ks=es.length
 ·simp only [h,decide_true,cond_true]
  unfold qy
  simp only [List.getElem?_append_right (Nat.le_refl _),Nat.sub_self,List.getElem?_cons_zero]
  rw [List.getElem?_set_ne (by omega),List.getElem?_append_left hi]
 ·have du:b8 es ks<es.length:=by omega
  simp only [h,decide_false,cond_false]
  unfold qy
  rw [List.getElem?_eq_getElem du]
  simp only
  rw [List.getElem?_set_ne (fun e=>dt e.symm)]
theorem Tb {es ks:List MV} {z v:MV}:(xE es ks z v).length=if b8 es ks<es.length then es.length else es.length+1:=by
 have h:((xE es ks z v).map iF).length=_:=congrArg List.length BB
 rw [List.length_map] at h
 rw [h];split<;>simp
def Mz (es ks:List MV):Option MV:=(es[b8 es ks]?).map TL
theorem KF (es ks:List MV):lE es ks=match Mz es ks with|some v=>asI v|none=>0:=by
 unfold lE Mz;cases es[b8 es ks]? <;>rfl
theorem Gf {es ks:List MV} {z v:MV} (hr:dK ks ks=true):Mz (xE es ks z v) ks=some v:=by
 have hle:=uD es ks
 have:b8 (xE es ks z v) ks=b8 es ks:=by
  rw [dR,BB,dR]
  split
  ·rfl
  ·rename_i h
   have h1:=zF (es.map iF) ks
   simp only [List.length_map] at h1⊢
   have h2:eH (es.map iF) ks=(es.map iF).length:=by simp;omega
   rw [BA hr h2,h2]
 unfold Mz
 rw [this,Vo];rfl
theorem Fm {es ks GB:List MV} {z v:MV} (dt:dK ks GB=false):Mz (xE es ks z v) GB=Mz es GB:=by
 unfold Mz
 have amS:=uD es GB
 have hle:=uD es ks
 have UE:b8 (xE es ks z v) GB=if b8 es ks<es.length then b8 es GB else if b8 es GB<es.length then b8 es GB else es.length+1:=by
  rw [dR,BB]
  split
  ·rw [dR]
  ·rw [AK dt,←dR];simp
 by_cases du:b8 es GB<es.length
 ·have hm:b8 (xE es ks z v) GB=b8 es GB:=by rw [UE];simp [du]
  have ahG:b8 es GB≠b8 es ks:=by
   intro he
   have h1:=KE (gw:=es.map iF) (ks:=GB) (by rw [←dR];simpa using du)
   have h2:=KE (gw:=es.map iF) (ks:=ks) (by rw [←dR,←he];simpa using du)
   rw [←dR,he,dR,h2] at h1
   cases h1
   have hq:dK ks ks=true:=by
    have:=du
    rw [he] at this
    have h3: ∀(l:List (List MV)),eH l ks<l.length→ ∃q,dK q ks=true:=by
     intro l
     induction l with
     |nil=>intro h;simp [eH] at h
     |cons q r ih=>
      intro h
      simp only [eH] at h
      cases hm:dK q ks with
      |true=>exact ⟨q,hm⟩
      |false=>simp only [hm,cond_false,List.length_cons] at h;exact ih (by omega)
    obtain ⟨q,hq⟩:=h3 (es.map iF) (by rw [←dR];simpa using this)
    have:=Jw hq
    subst this
    exact hq
   rw [hq] at dt;cases dt
  rw [hm,My du ahG]
 ·have BO:es[b8 es GB]? =none:=by rw [List.getElem?_eq_none_iff];omega
  rw [BO]
  have hlen:=Tb (es:=es) (ks:=ks) (z:=z) (v:=v)
  have:(xE es ks z v)[b8 (xE es ks z v) GB]? =none:=by
   rw [List.getElem?_eq_none_iff,UE,hlen]
   repeat' split
   all_goals omega
  rw [this]
end Dn
