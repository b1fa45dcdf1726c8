import Derived.Test.YtbkodohojpchjaaGreatDoorDnYD
/-
  Typed and plain functions agree. Conditions: none.
-/
set_option linter.unusedVariables false
set_option linter.unusedSimpArgs false
open Go.IntKind renaming wrap→aQ,bits→aaj
open Int renaming toNat→sh,fdiv→aan,tmod→aap
open List renaming length_map→AI,length_append→AS,length_cons→AT,length_nil→By,length_take→BY,length_drop→IN,map_take→IT,map_drop→No,length_set→OF,map_append→aaa,map_cons→aab,map_nil→aac,map_set→aad,drop→aae,take→aaf,map_replicate→aah,map→aai,getElem?_eq_some_iff→aal,set_getElem_self→aam,replicate→aao
open Option renaming map_some→aag
open Sum renaming elim→aak
open Go Dn
set_option maxRecDepth 100000
namespace Dn.S
@[reducible] def v0 (r : Int × Int × Int × Int × Int × Int × Int × Int × Int) : List MV := [.i .u32 r.1, .i .u32 r.2.1, .i .u32 r.2.2.1, .i .u32 r.2.2.2.1, .i .u32 r.2.2.2.2.1, .i .u32 r.2.2.2.2.2.1, .i .u32 r.2.2.2.2.2.2.1, .i .u32 r.2.2.2.2.2.2.2.1, .i .i64 r.2.2.2.2.2.2.2.2]
@[reducible] def v1 (r : Int × Int × Int × Int × Int × Int × Int × Int) : List MV := [.i .u32 r.1, .i .u32 r.2.1, .i .u32 r.2.2.1, .i .u32 r.2.2.2.1, .i .u32 r.2.2.2.2.1, .i .u32 r.2.2.2.2.2.1, .i .u32 r.2.2.2.2.2.2.1, .i .u32 r.2.2.2.2.2.2.2]
@[reducible] def v2 (r : (List Int) × (List Int) × Int) : List MV := [.h .u32 6 r.1, .list (r.2.1.map (MV.i .u8)), .i .i64 r.2.2]
theorem ig {A B:Type}{g:B->A}{T:Option B}{l:List MV}{K:Nat->Option A}(n:Nat)(h:Sm g (K n) T)(e:l.length=n:=by simp only [AI,AT,By]):Sm g (bM l K) T:=jD e h
theorem aH {A B C:Type}{g:B->A}{T:Option B}{f:C->MV}{M:List C}{K:Nat->Option A}(h:Sm g (K M.length) T):Sm g (bM (M.map f) K) T:=jD (AI ..) h
theorem ao {A B:Type}{g:B->A}{d:A}{a:B}(e:d=g a:=by exact rfl):Sm g (some d) (some a):=dA e
theorem CY {A B:Type}{g:B->A}{T:Option B}{k0 k1:IntKind}{x0:Int}{x1:Int}{K:Int->Int->Option A}(h:Sm g (K x0 x1) T):Sm g (Pm k0 k1 [.i k0 x0,.i k1 x1] K) T:=au (ay (au (ay (aU h))))
theorem ck {A B:Type}{g:B->A}{T:Option B}{k0 k1 k2 k5 k6 k7:IntKind}{x0:Int}{x1:Int}{x2:Int}{x3:List UInt8}{x4:List UInt8}{x5:Int}{x6:Int}{x7:Int}{K:Int->Int->Int->List UInt8->List UInt8->Int->Int->Int->Option A}(h:Sm g (K x0 x1 x2 x3 x4 x5 x6 x7) T):Sm g (Fj k0 k1 k2 k5 k6 k7 [.i k0 x0,.i k1 x1,.i k2 x2,.s x3,.s x4,.i k5 x5,.i k6 x6,.i k7 x7] K) T:=au (ay (au (ay (au (ay (au (kT (au (kT (au (ay (au (ay (au (ay (aU h))))))))))))))))
theorem CZ {A B:Type}{g:B->A}{T:Option B}{k0 k2:IntKind}{x0:Int}{x1:List MV}{x2:Int}{K:Int->List MV->Int->Option A}(h:Sm g (K x0 x1 x2) T):Sm g (Jd k0 k2 [.i k0 x0,.list x1,.i k2 x2] K) T:=au (ay (au (bx (au (ay (aU h))))))
theorem lf {A B:Type}{g:B->A}{T:Option B}{k1:IntKind}{x0:List MV}{x1:Int}{K:List MV->Int->Option A}(h:Sm g (K x0 x1) T):Sm g (oLI k1 [.list x0,.i k1 x1] K) T:=au (bx (au (ay (aU h))))
theorem JD {A B:Type}{g:B->A}{T:Option B}{k2:IntKind}{x0:List MV}{x1:List MV}{x2:Int}{K:List MV->List MV->Int->Option A}(h:Sm g (K x0 x1 x2) T):Sm g (Vt k2 [.list x0,.list x1,.i k2 x2] K) T:=au (bx (au (bx (au (ay (aU h))))))
theorem zU (o:ab):Sm aR (iY (aR o)) (aK o):=by
 unfold iY aK;refine kS (ck (aJ ?_ ?_))
 ·exact ao
 ·refine ap (f:=(λr=>(0,[.b r]))) ?_ λw=> ?_
  ·refine aJ ?_ ?_
   ·exact ao
   ·refine ap (f:=(λr=>(0,[.b r]))) ?_ λw1=> ?_
    ·refine aJ ?_ ?_
     ·exact ao
     ·refine ap (f:=(λr=>(0,[.b r]))) ?_ λw2=> ?_
      ·refine aJ ?_ ?_
       ·exact ao
       ·exact ao
      ·refine bD rfl (au (cL (aU ao)))
    ·refine bD rfl (au (cL (aU ao)))
  ·refine bD rfl (au (cL (aU (bG ?_ ?_))))
   ·exact ao
   ·refine aJ ?_ ?_
    ·exact ao
    ·refine aJ ?_ ?_
     ·exact ao
     ·refine aJ ?_ ?_
      ·exact ao
      ·refine ap (f:=(λr=>(0,[.b r]))) ?_ λw3=> ?_
       ·refine aJ ?_ ?_
        ·exact ao
        ·exact ao
       ·refine bD rfl (au (cL (aU (bG ?_ ?_))))
        ·exact ao
        ·refine aJ ?_ ?_
         ·exact ao
         ·exact ao
theorem FH (o:ab):Sm MV.b (pg (aR o)) (cE o):=by
 unfold pg cE;refine kS (ck ?_);refine ap (f:=λr=>[.b r]) ?_ λw=> ?_
 ·refine aJ ?_ ?_
  ·refine aJ ?_ ?_
   ·refine aJ ?_ ?_
    ·exact ao
    ·exact ao
   ·exact ao
  ·exact ao
 ·refine au (cL (aU ?_));refine ap (f:=λr=>[.b r]) ?_ λw1=> ?_
  ·refine bG ?_ ?_
   ·refine aJ ?_ ?_
    ·refine aJ ?_ ?_
     ·refine aJ ?_ ?_
      ·refine aJ ?_ ?_
       ·refine ap (zU o) λrA=>kS (ck ao)
       ·exact ao
      ·exact ao
     ·exact ao
    ·exact ao
   ·exact ao
  ·refine au (cL (aU ao))
theorem Sy (kind:Int):Sm MV.s (wV (.i .i64 kind)) (sD kind):=by
 unfold wV sD;refine ay<|aJ ?_ ?_
 ·exact ao
 ·refine ap (f:=(λr=>(0,[.b r]))) ?_ λw=> ?_
  ·refine aJ ?_ ?_
   ·exact ao
   ·refine ap (f:=(λr=>(0,[.b r]))) ?_ λw1=> ?_
    ·refine aJ ?_ ?_
     ·exact ao
     ·refine ap (f:=(λr=>(0,[.b r]))) ?_ λw2=> ?_
      ·refine aJ ?_ ?_
       ·exact ao
       ·exact ao
      ·refine bD rfl (au (cL (aU ao)))
    ·refine bD rfl (au (cL (aU ao)))
  ·refine bD rfl (au (cL (aU (bG ?_ ?_))))
   ·exact ao
   ·refine aJ ?_ ?_
    ·exact ao
    ·refine aJ ?_ ?_
     ·exact ao
     ·refine aJ ?_ ?_
      ·exact ao
      ·refine ap (f:=(λr=>(0,[.b r]))) ?_ λw3=> ?_
       ·refine aJ ?_ ?_
        ·exact ao
        ·exact ao
       ·refine bD rfl (au (cL (aU (bG ?_ ?_))))
        ·exact ao
        ·refine aJ ?_ ?_
         ·exact ao
         ·exact ao
theorem ol (sA:List UInt8)(c:Int):Sm MV.b (ku (.s sA) (.i .u8 c)) (dC sA c):=by
 unfold ku dC;refine kT (ay (ap (bL (λr=>[.i .i64 r]) (aak (λr=>(2,[])) (λr=>(1,[.b r]))) (rfl) λst=> ?_) λw=> ?_))
 ·unfold sE;refine au (ay (aU (aJ ?_ ?_)))
  ·refine al<|aJ ?_ ?_
   ·exact ao
   ·exact ao
  ·exact ao
 ·rcases w with p1|p2
  ·refine sw rfl (aU ao)
  ·refine sB rfl (bD rfl (au (cL (aU ao))))
theorem M0 (a:aF):Sm MV.b (wW (bV a)) (qf a):=by
 unfold wW qf;refine kS (ck ?_);refine ap (f:=λr=>[.b r]) ?_ λw=> ?_
 ·refine aJ ?_ ?_
  ·exact ao
  ·refine aJ ?_ ?_
   ·exact ao
   ·refine aJ ?_ ?_
    ·exact ao
    ·refine aJ ?_ ?_
     ·exact ao
     ·refine aJ ?_ ?_
      ·exact ao
      ·refine aJ ?_ ?_
       ·exact ao
       ·refine aJ ?_ ?_
        ·exact ao
        ·exact ao
 ·refine au (cL (aU (bG ?_ ?_)))
  ·exact ao
  ·refine ap (Sy a.Kind) λrA=>kT ?_;refine ap (f:=λr=>[.b r]) ?_ λw1=> ?_
   ·refine ap (ol rA 112) λcT=>cL<|bG ?_ ?_
    ·refine ap (ol rA 118) λfL=>cL<|bG ?_ ?_
     ·exact ao
     ·exact ao
    ·refine aJ ?_ ?_
     ·refine ap (ol rA 118) λmW=>cL<|bG ?_ ?_
      ·exact ao
      ·exact ao
     ·exact ao
   ·refine au (cL (aU ?_));refine ap (f:=λr=>[.b r]) ?_ λw2=> ?_
    ·refine bG ?_ ?_
     ·refine ap (ol rA 110) λsF=>cL<|bG ?_ ?_
      ·refine ap (ol rA 115) λxy=>cL<|bG ?_ ?_
       ·refine ap (ol rA 116) λxz=>cL<|bG ?_ ?_
        ·exact ao
        ·exact ao
       ·refine aJ ?_ ?_
        ·refine ap (ol rA 116) λy9=>cL<|bG ?_ ?_
         ·exact ao
         ·exact ao
        ·exact ao
      ·refine aJ ?_ ?_
       ·refine ap (ol rA 115) λPl=>cL<|bG ?_ ?_
        ·refine ap (ol rA 116) λR9=>cL<|bG ?_ ?_
         ·exact ao
         ·exact ao
        ·refine aJ ?_ ?_
         ·refine ap (ol rA 116) λBP=>cL<|bG ?_ ?_
          ·exact ao
          ·exact ao
         ·exact ao
       ·exact ao
     ·exact ao
    ·refine au (cL (aU ao))
theorem Sz (n:Int):Sm (MV.i .i64) (wX (.i .u64 n)) (sG n):=by
 unfold wX sG;refine ay<|ap (bL (λr=>[.i .u64 r.1,.i .i64 r.2]) (λr=>(2,[.i .i64 r])) (rfl) λst=> ?_) λw=> ?_
 ·unfold mr;refine CY<|aJ ?_ ?_
  ·refine iW ao
  ·exact ao
 ·refine bD rfl (au (ay (aU ao)))
theorem Ao (b:List Int)(n:Int):Sm (G4 (MV.i .u8)) (qt (.list (b.map (MV.i .u8))) (.i .u64 n)) (nE b n):=by
 unfold qt nE;refine bx (ay (bD (fe (rfl:_=aai (MV.i .u8) b) λ_=>rfl) (ig (([]:List Int).length) (aH (al (ap (Sz n) λrA=>ay (jD (n:=(([]:List Int)++b).length) (by simp only [AI,AS,AT,By,BY,IN,OF]) (ig (([aQ .u8 (aQ .i64 (rA-1))]:List Int).length) (al ?_)))))))));refine ap (bL (λr=>[.list (r.1.map (MV.i .u8)),.i .i64 r.2]) (λr=>(2,[.list (r.map (MV.i .u8))])) (by simp) λst=> ?_) λw=> ?_
 ·unfold oY;refine lf<|aJ ?_ ?_
  ·refine ap (bL (λr=>[.i .u64 r.1,.i .i64 r.2]) (λr=>(4,[.i .u64 r])) (rfl) λaT=> ?_) λw1=> ?_
   ·unfold oX;refine CY<|aJ ?_ ?_
    ·refine iW ao
    ·exact ao
   ·refine bD rfl (au (ay (aU (iW (aH (ig (([aQ .u8 (aap w1 256)]:List Int).length) (al (dA (by simp)))))))))
  ·exact ao
 ·refine bD rfl (au (bx (aU ao)))
theorem VL (b:List Int)(n:Int):Sm (G4 (MV.i .u8)) (Ai (.list (b.map (MV.i .u8))) (.i .i64 n)) (wF b n):=by
 unfold Ai wF;refine bx (ay (aJ ?_ ?_))
 ·refine ap (Ao b (aQ .u64 ((aQ .u64 (2 *(aQ .u64 (aQ .i64 (0-(aQ .i64 (n+1)))))))+1))) λrA=>j0 ao
 ·refine ap (Ao b (aQ .u64 (2 *(aQ .u64 n)))) λcT=>j0 ao
theorem JE (b:List Int)(sA:List UInt8):Sm (G4 (MV.i .u8)) (s6 (.list (b.map (MV.i .u8))) (.s sA)) (oZ b sA):=by unfold s6 oZ;refine bx (kT (ap (Ao b (aQ .u64 (sA.length:Int))) λrA=>j0 (aH (jD (n:=(gj sA).length) (by simp only [kG,AI,AS,AT,By,BY,IN,OF]) (al ?_)))));exact dA (by simp)
theorem OG (lA:List ab):Sm MV.b (tV (.list (lA.map aR))) (o4 lA):=by
 unfold tV o4;refine bx<|ap (bL (λr=>[.i .i64 r]) (aak (λr=>(2,[])) (λr=>(1,[.b r]))) (rfl) λst=> ?_) λw=> ?_
 ·unfold sH;refine au (ay (aU (aH (aJ ?_ ?_))))
  ·refine ap (f:=λr=>[.b r]) ?_ λw1=> ?_
   ·refine aJ ?_ ?_
    ·exact ao
    ·refine cy (f:=aR) (rfl) λy=>kS (ck (aJ ?_ ?_))
     ·exact ao
     ·refine cy (f:=aR) (rfl) λy1=>kS (ck ao)
   ·refine au (cL (aU (bG ?_ ?_)))
    ·exact ao
    ·exact ao
  ·exact ao
 ·rcases w with p1|p2
  ·refine sw rfl (aU ao)
  ·refine sB rfl (bD rfl (au (cL (aU ao))))
theorem Lq (x:Int):Sm (MV.i .i64) (qx (.i .u64 x)) (qg x):=by
 unfold qx qg;refine ay<|ap (f:=(λr=>(0,[.i .u64 r.1,.i .i64 r.2]))) ?_ λw=> ?_
 ·refine aJ ?_ ?_
  ·refine al ao
  ·exact ao
 ·refine bD rfl (CY (ap (f:=(λr=>(0,[.i .u64 r.1,.i .i64 r.2]))) ?_ λw1=> ?_))
  ·refine aJ ?_ ?_
   ·refine al ao
   ·exact ao
  ·refine bD rfl (CY (ap (f:=(λr=>(0,[.i .u64 r.1,.i .i64 r.2]))) ?_ λw2=> ?_))
   ·refine aJ ?_ ?_
    ·refine al ao
    ·exact ao
   ·refine bD rfl (CY (al ao))
theorem Lr (n:Int):Sm (MV.i .i64) (qy (.i .u64 n)) (mu n):=by unfold qy mu;refine ay<|ap (Lq n) λrA=>ay (iW ao)
theorem zV (sA:List Int):Sm (acK (MV.i .u8)) (iZ (.list (sA.map (MV.i .u8)))) (iX sA):=by unfold iZ iX;refine bx (aH (aH (MK (by simp only [AI]) ao)))
theorem yq (b:List Int)(n:Int):Sm (G4 (MV.i .u8)) (lQ (.list (b.map (MV.i .u8))) (.i .u64 n)) (kj b n):=by
 unfold lQ kj;refine bx (ay (ap (Lr n) λrA=>ay (ap (zV b) λcT=> ?_)));refine Y0 (bD (fe (rfl:_=aai (MV.i .u8) cT) λ_=>rfl) (aH (ig (([aQ .u8 (aQ .i64 (rA-1))]:List Int).length) (al (ap (bL (λr=>[.list (r.1.map (MV.i .u8)),.i .i64 r.2]) (λr=>(2,[.list (r.map (MV.i .u8))])) (by simp) λst=> ?_) λw=> ?_)))))
 ·unfold kU;refine lf<|aJ ?_ ?_
  ·refine al (aH (ig (([aQ .u8 (aan n (2^min (sh (aQ .i64 (8 *st.2))) (aaj .u64)))]:List Int).length) (al (dA (by simp)))))
  ·exact ao
 ·refine bD rfl (au (bx (aU ao)))
theorem C0 (b:List Int)(sA:List UInt8):Sm (G4 (MV.i .u8)) (mQ (.list (b.map (MV.i .u8))) (.s sA)) (kl b sA):=by unfold mQ kl;refine bx (kT (ap (yq b (aQ .u64 (sA.length:Int))) λrA=>j0 (aH (jD (n:=(gj sA).length) (by simp only [kG,AI,AS,AT,By,BY,IN,OF]) (al ?_)))));exact dA (by simp)
theorem OH (b:List Int)(n:Int):Sm (G4 (MV.i .u8)) (tW (.list (b.map (MV.i .u8))) (.i .i64 n)) (o6 b n):=by unfold tW o6;refine bx (ay (al (al (ap (yq b (bn .u64 (aQ .u64 ((aQ .u64 n) *2^min (sh 1) (aaj .u64))) (aQ .u64 (aan n (2^min (sh 63) (aaj .i64)))))) λrA=>j0 ao))))
theorem Ls (b:List Int)(lA:List Int):Sm (Ld (MV.i .u8)) (qz (.list (b.map (MV.i .u8))) (.list (lA.map (MV.i .i64)))) (mw b lA):=by
 unfold qz mw;refine bx (bx (aH (ap (bL (λr=>[.list (r.1.map (MV.i .u8)),.i .i64 r.2]) (λr=>(2,[.list (r.map (MV.i .u8))])) (rfl) λst=> ?_) λw=> ?_)))
 ·unfold lD;refine lf<|aJ ?_ ?_
  ·refine cy (f:=(MV.i .i64)) (rfl) λy=>ay<|ap (OH st.1 y) λrA=>j0 ao
  ·exact ao
 ·refine bD rfl (au (bx (aU ao)))
theorem OI (b:List Int)(o:ab):Sm (G4 (MV.i .u8)) (ua (.list (b.map (MV.i .u8))) (aR o)) (o8 b o):=by unfold ua o8;refine bx (kS (ck (ap (Ls b ([o.Client,o.Seq,o.Kind,o.Version,o.Session,o.Span]:List Int)) λrA=>bx (ap (C0 rA o.Path) λcT=>j0 (ap (C0 cT o.Value) λfL=>j0 ao)))))
theorem Hk (lA:List ab):Sm (λr=> .cG [.s r.1,.i .i64 r.2]) (lG (.list (lA.map aR))) (gY lA):=by
 unfold lG gY;refine bx (aH (aJ ?_ ?_))
 ·exact ao
 ·refine aH<|ap (yq ([]:List Int) (aQ .u64 (lA.length:Int))) λrA=>j0 (aH (ap (bL (λr=>[.list (r.1.map (MV.i .u8)),.i .i64 r.2]) (aak (λr=>(2,[.list (r.map (MV.i .u8))])) (λr=>(1,[.s r.1,.i .i64 r.2]))) (rfl) λst=> ?_) λw=> ?_))
  ·unfold eI;refine lf<|aJ ?_ ?_
   ·refine cy (f:=aR) (rfl) λy=>kS (ck (ap (FH y) λcT=>cL (bG ?_ ?_)))
    ·exact ao
    ·refine ap (OI st.1 y) λfL=>j0 ao
   ·exact ao
  ·rcases w with p1|p2
   ·refine sw rfl (au (bx (aU (G5 (M:=p1) (rfl) λbs=>ao))))
   ·refine sB rfl (bD rfl (au (kT (au (ay (aU ao))))))
theorem vC (b:List Int):Sm (λr=> .cG [.i .u64 r.1,.list (r.2.1.map (MV.i .u8)),.i .i64 r.2.2]) (kv (.list (b.map (MV.i .u8)))) (jf b):=by
 unfold kv jf;refine bx (aH (aJ ?_ ?_))
 ·exact ao
 ·refine cy (f:=(MV.i .u8)) (rfl) λy=> ?_;refine ay (bD (fe (rfl:_=aai (MV.i .u8) b) λ_=>rfl) (aH (al ?_)));refine ap (f:=λr=>[.b r]) ?_ λw=> ?_
  ·refine aJ ?_ ?_
   ·exact ao
   ·refine aJ ?_ ?_
    ·refine jD (n:=(aae (sh 1) (aaf (sh (b.length:Int)) b)).length) (by simp only [AI,AS,AT,By,BY,IN,OF])<|aJ ?_ ?_
     ·refine cy (f:=(MV.i .u8)) (by simp only [kG,aah,aaa,aab,aac,IT,No,aad]) λy1=>ay ao
     ·exact ao
    ·exact ao
  ·refine au (cL (aU (bG ?_ ?_)))
   ·exact ao
   ·refine jD (n:=(aae (sh 1) (aaf (sh (b.length:Int)) b)).length) (by simp only [AI,AS,AT,By,BY,IN,OF])<|aJ ?_ ?_
    ·exact ao
    ·refine jD (n:=(aae (sh 1) (aaf (sh (b.length:Int)) b)).length) (by simp only [AI,AS,AT,By,BY,IN,OF]) (al (jD (n:=(aae (sh 0) (aaf (sh (aQ .i64 y)) (aae (sh 1) (aaf (sh (b.length:Int)) b)))).length) (by simp only [AI,AS,AT,By,BY,IN,OF]) ?_));refine ap (bL (λr=>[.i .u64 r.1,.i .i64 r.2]) (λr=>(3,[.i .u64 r])) (rfl) λst=> ?_) λw1=> ?_
     ·unfold jE;refine CY<|aJ ?_ ?_
      ·refine cy (f:=(MV.i .u8)) (by simp only [kG,aah,aaa,aab,aac,IT,No,aad]) λy2=>ay (al ao)
      ·exact ao
     ·refine bD rfl (au (ay (aU (bD (fe ((by simp only [kG,aah,aaa,aab,aac,IT,No,aad]):_=aai (MV.i .u8) (aae (sh 1) (aaf (sh (b.length:Int)) b))) λ_=>rfl) (jD (n:=(aae (sh 1) (aaf (sh (b.length:Int)) b)).length) (by simp only [AI,AS,AT,By,BY,IN,OF]) (al ?_))))));exact dA (by first|(simp;done)|simp only [aaa,aab,aac,IT,No,aad])
theorem Eg (b:List Int):Sm (λr=> .cG [.i .i64 r.1,.list (r.2.1.map (MV.i .u8)),.i .i64 r.2.2]) (kH (.list (b.map (MV.i .u8)))) (fC b):=by unfold kH fC;refine bx<|ap (vC b) λrA=>jZ (CZ (al ao))
theorem C1 (b:List Int)(most:Int):Sm (λr=> .cG [.s r.1,.list (r.2.1.map (MV.i .u8)),.i .i64 r.2.2]) (jL (.list (b.map (MV.i .u8))) (.i .i64 most)) (eJ b most):=by
 unfold jL eJ;refine bx (ay (ap (vC b) λrA=>jZ (CZ (bG ?_ ?_))))
 ·exact ao
 ·refine aJ ?_ ?_
  ·exact ao
  ·refine aH<|aJ ?_ ?_
   ·exact ao
   ·refine aH (al (G5 (M:=aae (sh 0) (aaf (sh rA.1) rA.2.1)) ((by simp only [kG,aah,aaa,aab,aac,IT,No,aad])) λbs=> ?_));refine bD (fe (rfl:_=aai (MV.i .u8) rA.2.1) λ_=>rfl) (aH (al (dA (by first|(simp;done)|simp only [aaa,aab,aac,IT,No,aad]))))
theorem FI {j:Nat}{b:List Int}{e x:Int}{os:List MV}(h:os[j]? =some (.i .i64 x)):U9 bA qW j ⟨b.map (MV.i .u8),e,os⟩=(jF b e x).map λr=>⟨r.2.1.map (MV.i .u8),r.2.2,os.set j (.i .i64 r.1)⟩:=by
 unfold U9 jF;by_cases he:e=0
 ·rw [if_pos he,if_pos he];show (match bA qW.ti [.list (b.map (MV.i .u8))] with|some (.cG [.i .i64 n,.list xs,.i .i64 e])=>_|_=>none)=_;rw [show bA qW.ti [.list (b.map (MV.i .u8))]=kH (.list (b.map (MV.i .u8))) from by kernel_rfl];have h:=Eg b;unfold Sm at h;rw [h];cases fC b<;>rfl
 ·rw [if_neg he,if_neg he];obtain ⟨hl,hx⟩:=aal.1 h;have hs:os.set j (.i .i64 x)=os:=by rw [<-hx,aam]
  show _=some (⟨b.map (MV.i .u8),e,os.set j (.i .i64 x)⟩:I8);rw [hs]
theorem Xm {j:Nat}{b:List Int}{e most:Int}{os:List MV}(h:os[j]? =some (.s [])):GX bA qW j most ⟨b.map (MV.i .u8),e,os⟩=(my b e most).map λr=>⟨r.2.1.map (MV.i .u8),r.2.2,os.set j (.s r.1)⟩:=by
 unfold GX my;by_cases he:e=0
 ·rw [if_pos he,if_pos he];show (match bA qW.tx [.list (b.map (MV.i .u8)),.i .i64 most] with|some (.cG [.s l,.list xs,.i .i64 e])=>_|_=>none)=_;rw [show bA qW.tx [.list (b.map (MV.i .u8)),.i .i64 most]=jL (.list (b.map (MV.i .u8))) (.i .i64 most) from by kernel_rfl];have h:=C1 b most;unfold Sm at h;rw [h];cases eJ b most<;>rfl
 ·rw [if_neg he,if_neg he];obtain ⟨hl,hx⟩:=aal.1 h;have hs:os.set j (.s [])=os:=by rw [<-hx,aam]
  show _=some (⟨b.map (MV.i .u8),e,os.set j (.s [])⟩:I8);rw [hs]
theorem Lt (b:List Int):Sm (λr=> .cG [aR r.1,.list (r.2.1.map (MV.i .u8)),.i .i64 r.2.2]) (vz (.list (b.map (MV.i .u8)))) (mz b):=by
 show I9 bA qW (b.map (MV.i .u8))=_;unfold I9 mz;simp only [xW];rw [FI (j:=0) (x:=0) rfl];cases jF b 0 0 with|none=>rfl|some r0=> ?_;simp only [aag,aL];rw [FI (j:=1) (x:=0) rfl];cases jF r0.2.1 r0.2.2 0 with|none=>rfl|some r1=> ?_;simp only [aag,aL];rw [FI (j:=2) (x:=0) rfl];cases jF r1.2.1 r1.2.2 0 with|none=>rfl|some r2=> ?_;simp only [aag,aL];rw [FI (j:=5) (x:=0) rfl];cases jF r2.2.1 r2.2.2 0 with|none=>rfl|some r3=> ?_;simp only [aag,aL];rw [FI (j:=6) (x:=0) rfl];cases jF r3.2.1 r3.2.2 0 with|none=>rfl|some r4=> ?_;simp only [aag,aL];rw [FI (j:=7) (x:=0) rfl];cases jF r4.2.1 r4.2.2 0 with|none=>rfl|some r5=> ?_;simp only [aag,aL];rw [Xm (j:=3) rfl];cases my r5.2.1 r5.2.2 100 with|none=>rfl|some s0=> ?_;simp only [aag,aL];rw [Xm (j:=4) rfl];cases my s0.2.1 s0.2.2 1000 with|none=>rfl|some s1=> ?_;simp only [aag,aL];by_cases he:s1.2.2=0;rotate_left
 ·rw [if_neg he,if_neg he];rfl
 rw [if_pos he,if_pos he];have h:=FH (⟨r0.1,r1.1,r2.1,s0.1,s1.1,r3.1,r4.1,r5.1⟩:ab);unfold Sm at h;show (match bA qW.may [aR (⟨r0.1,r1.1,r2.1,s0.1,s1.1,r3.1,r4.1,r5.1⟩:ab)] with|some (.b true)=>_|some (.b false)=>_|_=>none)=_;rw [show bA qW.may [aR (⟨r0.1,r1.1,r2.1,s0.1,s1.1,r3.1,r4.1,r5.1⟩:ab)]=pg (aR (⟨r0.1,r1.1,r2.1,s0.1,s1.1,r3.1,r4.1,r5.1⟩:ab)) from by kernel_rfl,h];cases cE (⟨r0.1,r1.1,r2.1,s0.1,s1.1,r3.1,r4.1,r5.1⟩:ab) with
 |none=>rfl
 |some m=>cases m<;>rfl
theorem Hl (sA:List UInt8):Sm (λr=> .cG [.list (r.1.map aR),.i .i64 r.2]) (lH (.s sA)) (ea sA):=by
 unfold lH ea;refine kT ?_;refine ap (by rw [kG];exact vC (gj sA)) λrA=> ?_;refine jZ (CZ ?_);refine ap (f:=λr=>[.b r]) ?_ λw=> ?_
 ·refine bG ?_ ?_
  ·exact ao
  ·exact ao
 ·refine au (cL (aU (bG ?_ ?_)))
  ·exact ao
  ·refine al (jD (n:=(aao (sh rA.1) (⟨0,0,0,([]:List UInt8),([]:List UInt8),0,0,0⟩:ab)).length) (by simp only [List.length_replicate,AI,AS,AT,By,BY,IN,OF]) ?_);refine ap (bL (λr=>[.list (r.1.map (MV.i .u8)),.list (r.2.1.map aR),.i .i64 r.2.2]) (aak (λr=>(2,[.list (r.1.map (MV.i .u8)),.list (r.2.map aR)])) (λr=>(1,[.list (r.1.map aR),.i .i64 r.2]))) (by simp [bj]) λst=> ?_) λw1=> ?_
   ·unfold eK;refine JD<|aJ ?_ ?_
    ·refine ap (Lt st.1) λcT=>jZ (au (kS (ck (lf (cy (f:=aR) (rfl) λy=>kS (ck (bG ?_ ?_)))))))
     ·exact ao
     ·exact dA (by simp [bj])
    ·exact ao
   ·rcases w1 with p1|p2
    ·refine sw rfl (au (bx (au (bx (aU (aH (aJ ?_ ?_)))))))
     ·exact ao
     ·exact ao
    ·refine sB rfl (bD rfl (lf ao))
theorem SA:pv=some (.b true):=by kernel_rfl
theorem FJ:Sm MV.b pv o9:=SA
theorem SB (a:List aF)(b:List aF):Sm MV.b (xa (.list (a.map bV)) (.list (b.map bV))) (sI a b):=by
 unfold xa sI;refine bx (bx (aH (aH (bG ?_ ?_))))
 ·exact ao
 ·refine ap (bL (λr=>[.i .i64 r]) (aak (λr=>(2,[])) (λr=>(1,[.b r]))) (rfl) λst=> ?_) λw=> ?_
  ·unfold vq;refine au (ay (aU (aH (aJ ?_ ?_))))
   ·refine cy (f:=bV) (rfl) λy=>kS (ck (cy (f:=bV) (rfl) λy1=>kS (ck (bG ?_ ?_))))
    ·exact ao
    ·exact ao
   ·exact ao
  ·rcases w with p1|p2
   ·refine sw rfl (aU ao)
   ·refine sB rfl (bD rfl (au (cL (aU ao))))
theorem M1 (lA:List ab):Sm (Ld bV) (xb (.list (lA.map aR))) (tT lA):=by
 unfold xb tT;refine bx<|ap (bL (λr=>[.list (r.1.map bV),.i .i64 r.2]) (λr=>(2,[.list (r.map bV)])) (rfl) λst=> ?_) λw=> ?_
 ·unfold tK;refine lf (aH (aJ ?_ ?_))
  ·refine cy (f:=aR) (rfl) λy=>kS (ck (aH (ig (([(⟨y.Client,y.Seq,y.Kind,y.Path,y.Value,y.Version,y.Session,y.Span⟩:aF)]:List aF).length) (al (dA (by simp [bj]))))))
  ·exact ao
 ·refine bD rfl (au (bx (aU ao)))
theorem VM (b:List Int)(o:aF):Sm (G4 (MV.i .u8)) (Aj (.list (b.map (MV.i .u8))) (bV o)) (wG b o):=by
 unfold Aj wG;refine bx (kS (ck (ap (bL (λr=>[.list (r.1.map (MV.i .u8)),.i .i64 r.2]) (λr=>(2,[.list (r.map (MV.i .u8))])) (rfl) λst=> ?_) λw=> ?_)))
 ·unfold pa;refine lf (ig (([o.Client,o.Seq,o.Kind,o.Version,o.Session,o.Span]:List Int).length) (aJ ?_ ?_))
  ·refine cy (f:=(MV.i .i64)) (rfl) λy=>ay<|ap (VL st.1 y) λrA=>j0 ao
  ·exact ao
 ·refine bD rfl (au (bx (aU (ap (JE w o.Path) λcT=>j0 (ap (JE cT o.Value) λfL=>j0 ao)))))
theorem Lu (lA:List aF):Sm (λr=> .cG [.s r.1,.i .i64 r.2]) (qA (.list (lA.map bV))) (mA lA):=by
 unfold qA mA;refine bx (aH (aJ ?_ ?_))
 ·exact ao
 ·refine aH<|ap (Ao ([]:List Int) (aQ .u64 (lA.length:Int))) λrA=>j0<|ap (bL (λr=>[.list (r.1.map (MV.i .u8)),.i .i64 r.2]) (aak (λr=>(2,[.list (r.map (MV.i .u8))])) (λr=>(1,[.s r.1,.i .i64 r.2]))) (rfl) λst=> ?_) λw=> ?_
  ·unfold gZ;refine lf (aH (aJ ?_ ?_))
   ·refine cy (f:=bV) (rfl) λy=>kS (ck (ap (M0 y) λcT=>cL (bG ?_ ?_)))
    ·exact ao
    ·refine cy (f:=bV) (rfl) λy1=>kS (ck (ap (VM st.1 y1) λfL=>j0 ao))
   ·exact ao
  ·rcases w with p1|p2
   ·refine sw rfl (au (bx (aU (G5 (M:=p1) (rfl) λbs=>ao))))
   ·refine sB rfl (bD rfl (au (kT (au (ay (aU ao))))))
theorem C2 (b:List Int):Sm (λr=> .cG [.i .u64 r.1,.list (r.2.1.map (MV.i .u8)),.i .i64 r.2.2]) (pw (.list (b.map (MV.i .u8)))) (mC b):=by
 unfold pw mC;refine bx (aH (aJ ?_ ?_))
 ·exact ao
 ·refine cy (f:=(MV.i .u8)) (rfl) λy=>ay ?_;refine ap (f:=λr=>[.b r]) ?_ λw=> ?_
  ·refine aJ ?_ ?_
   ·exact ao
   ·refine aJ ?_ ?_
    ·refine aH<|aJ ?_ ?_
     ·refine cy (f:=(MV.i .u8)) (rfl) λy1=>ay ao
     ·exact ao
    ·exact ao
  ·refine au (cL (aU (bG ?_ ?_)))
   ·exact ao
   ·refine aH<|aJ ?_ ?_
    ·exact ao
    ·refine ap (bL (λr=>[.i .u64 r.1,.i .i64 r.2]) (λr=>(2,[.i .u64 r])) (rfl) λst=> ?_) λw1=> ?_
     ·unfold mB;refine CY<|aJ ?_ ?_
      ·refine cy (f:=(MV.i .u8)) (rfl) λy2=>ay ao
      ·exact ao
     ·refine bD rfl (au (ay (aU (bD (fe (rfl:_=aai (MV.i .u8) b) λ_=>rfl) (aH (al (dA (by first|(simp;done)|simp only [aaa,aab,aac,IT,No,aad]))))))))
theorem JF (b:List Int):Sm (λr=> .cG [.i .i64 r.1,.list (r.2.1.map (MV.i .u8)),.i .i64 r.2.2]) (nO (.list (b.map (MV.i .u8)))) (kV b):=by
 unfold nO kV;refine bx<|ap (C2 b) λrA=>jZ (CZ (bG ?_ ?_))
 ·exact ao
 ·refine iW<|aJ ?_ ?_
  ·refine iW ao
  ·refine iW ao
theorem SC (b:List Int)(many:Int):Sm (λr=> .cG [.list (r.1.map (MV.i .i64)),.list (r.2.1.map (MV.i .u8)),.i .i64 r.2.2]) (xc (.list (b.map (MV.i .u8))) (.i .i64 many)) (wH b many):=by
 unfold xc wH;refine bx (ay (ap (bL (λr=>[.list (r.1.map (MV.i .u8)),.list (r.2.1.map (MV.i .i64)),.i .i64 r.2.2]) (aak (λr=>(2,[.list (r.1.map (MV.i .u8)),.list (r.2.map (MV.i .i64))])) (λr=>(1,[.list (r.1.map (MV.i .i64)),.list (r.2.1.map (MV.i .u8)),.i .i64 r.2.2]))) (rfl) λst=> ?_) λw=> ?_))
 ·unfold km;refine JD<|aJ ?_ ?_
  ·refine ap (JF st.1) λrA=>jZ (CZ (bG ?_ ?_))
   ·exact ao
   ·refine aH (ig (([rA.1]:List Int).length) (al (dA (by simp))))
  ·exact ao
 ·rcases w with p1|p2
  ·refine sw rfl (au (bx (au (bx (aU ao)))))
  ·refine sB rfl (bD rfl (JD ao))
theorem xj (b:List Int)(most:Int):Sm (λr=> .cG [.s r.1,.list (r.2.1.map (MV.i .u8)),.i .i64 r.2.2]) (jM (.list (b.map (MV.i .u8))) (.i .i64 most)) (ia b most):=by
 unfold jM ia;refine bx (ay (ap (C2 b) λrA=>jZ (CZ (bG ?_ ?_))))
 ·exact ao
 ·refine aJ ?_ ?_
  ·exact ao
  ·refine aH<|aJ ?_ ?_
   ·exact ao
   ·refine aH (al (G5 (M:=aae (sh 0) (aaf (sh rA.1) rA.2.1)) ((by simp only [kG,aah,aaa,aab,aac,IT,No,aad])) λbs=> ?_));refine bD (fe (rfl:_=aai (MV.i .u8) rA.2.1) λ_=>rfl) (aH (al (dA (by first|(simp;done)|simp only [aaa,aab,aac,IT,No,aad]))))
theorem SD (a:List Int):Sm (λr=> .cG [bV r.1,.list (r.2.1.map (MV.i .u8)),.i .i64 r.2.2]) (xe (.list (a.map (MV.i .u8)))) (sJ a):=by
 unfold xe sJ;refine bx<|ap (SC a 6) λrA=>jZ (JD (bG ?_ ?_))
 ·exact ao
 ·refine ap (xj rA.2.1 100) λcT=>jZ (au (kT (lf (bG ?_ ?_))))
  ·exact ao
  ·refine ap (xj cT.2.1 1000) λfL=>jZ (au (kT (lf (bG ?_ ?_))))
   ·exact ao
   ·refine cy (f:=(MV.i .i64)) (rfl) λy=>ay<|cy (f:=(MV.i .i64)) (rfl) λy1=>ay<|cy (f:=(MV.i .i64)) (rfl) λy2=>ay<|cy (f:=(MV.i .i64)) (rfl) λy3=>ay<|cy (f:=(MV.i .i64)) (rfl) λy4=>ay ?_;refine cy (f:=(MV.i .i64)) (rfl) λy5=>ay<|ap (M0 (⟨y,y1,y2,cT.1,fL.1,y3,y4,y5⟩:aF)) λmW=>cL<|bG ?_ ?_
    ·exact ao
    ·exact ao
theorem Lv (sA:List UInt8):Sm (λr=> .cG [.list (r.1.map bV),.i .i64 r.2]) (qB (.s sA)) (mD sA):=by
 unfold qB mD;refine kT ?_;refine ap (by rw [kG];exact C2 (gj sA)) λrA=> ?_;refine jZ (CZ ?_);refine ap (f:=λr=>[.b r]) ?_ λw=> ?_
 ·refine bG ?_ ?_
  ·exact ao
  ·exact ao
 ·refine au (cL (aU (bG ?_ ?_)))
  ·exact ao
  ·refine ap (bL (λr=>[.list (r.1.map (MV.i .u8)),.list (r.2.1.map bV),.i .u64 r.2.2]) (aak (λr=>(2,[.list (r.1.map (MV.i .u8)),.list (r.2.map bV)])) (λr=>(1,[.list (r.1.map bV),.i .i64 r.2]))) (rfl) λst=> ?_) λw1=> ?_
   ·unfold ib;refine JD<|aJ ?_ ?_
    ·refine ap (SD st.1) λcT=>jZ (au (kS (ck (lf (bG ?_ ?_)))))
     ·exact ao
     ·refine aH (ig (([cT.1]:List aF).length) (al (dA (by simp [bj]))))
    ·exact ao
   ·rcases w1 with p1|p2
    ·refine sw rfl (au (bx (au (bx (aU (aH (aJ ?_ ?_)))))))
     ·exact ao
     ·exact ao
    ·refine sB rfl (bD rfl (lf ao))
theorem xk (x:Int)(k:Int):Sm (MV.i .u32) (fV (.i .u32 x) (.i .i64 k)) (fT x k):=by unfold fV fT;refine ay (ay (al (al ao)))
theorem dw (x:Int)(k:Int):Sm (MV.i .u32) (cP (.i .u32 x) (.i .i64 k)) (bE x k):=by unfold cP bE;refine ay (ay (ap (xk x (aQ .i64 (0-k))) λrA=>ay ao))
theorem JG (b:List Int):Sm (MV.i .u32) (xf (.list (b.map (MV.i .u8)))) (wI b):=by unfold xf wI;refine bx<|cy (f:=(MV.i .u8)) (rfl) λy=>ay (al (cy (f:=(MV.i .u8)) (rfl) λy1=>ay (al (cy (f:=(MV.i .u8)) (rfl) λy2=>ay (al (cy (f:=(MV.i .u8)) (rfl) λy3=>ay ao))))))
theorem xl (b:List Int):Sm (MV.h .u32 62) (jN (.list (b.map (MV.i .u8)))) (ic b):=by
 unfold jN ic;refine bx<|ap (bL (λr=>[.h .u32 62 r.1,.i .i64 r.2]) (λr=>(2,[.h .u32 62 r])) (rfl) λst=> ?_) λw=> ?_
 ·unfold dO;refine au (cv (au (ay (aU (aJ ?_ ?_)))))
  ·refine bD (fe (rfl:_=aai (MV.i .u8) b) λ_=>rfl) (aH (al (ap (by first|(simpa using JG (aae (sh (aQ .i64 (4 *st.2))) (aaf (sh (b.length:Int)) b));done)|(have hq:=JG (aae (sh (aQ .i64 (4 *st.2))) (aaf (sh (b.length:Int)) b));simp only [No,IT] at hq;exact hq)) λrA=> ?_)));refine ay (al ao)
  ·exact ao
 ·refine bD rfl (au (cv (aU (ap (bL (λr=>[.h .u32 62 r.1,.i .i64 r.2]) (λr=>(4,[.h .u32 62 r])) (rfl) λaT=> ?_) λw3=> ?_))))
  ·unfold dP;refine au (cv (au (ay (aU (aJ ?_ ?_)))))
   ·refine al (al (ap (dw (aT.1.getD (sh (aQ .i64 (aT.2-15))) 0) 7) λcT=>ay (ap (dw (aT.1.getD (sh (aQ .i64 (aT.2-15))) 0) 18) λfL=>ay (al (ap (dw (aT.1.getD (sh (aQ .i64 (aT.2-2))) 0) 17) λmW=> ?_)))));refine ay<|ap (dw (aT.1.getD (sh (aQ .i64 (aT.2-2))) 0) 19) λsF=>ay (al (al (al (al ao))))
   ·exact ao
  ·refine bD rfl (au (cv (aU ao)))
theorem FK:Sm (λx:List Int=>MV.rp [.h .u32 62 x]) (pz) (pc):=by unfold pz pc;exact ao
theorem JH (out:List Int)(n:Int)(long:Int):Sm (G4 (MV.i .u8)) (s8 (.fresh (out.map (MV.i .u8))) (.i .u64 n) (.i .i64 long)) (pe out n long):=by
 unfold s8 pe;refine j0 (ay (ay (ap (bL (λr=>[.list (r.1.map (MV.i .u8)),.i .i64 r.2]) (λr=>(2,[.list (r.map (MV.i .u8))])) (rfl) λst=> ?_) λw=> ?_)))
 ·unfold kn;refine lf<|aJ ?_ ?_
  ·refine al (aH (ig (([aQ .u8 (aan n (2^min (sh (aQ .i64 (8 *st.2))) (aaj .u64)))]:List Int).length) (al (dA (by simp)))))
  ·exact ao
 ·refine bD rfl (au (bx (aU ao)))
theorem VN (n:Int):Sm (Ld (MV.i .u8)) (Ak (.i .i64 n)) (wJ n):=by unfold Ak wJ;refine ay (iW (iW (al (cy (f:=(MV.i .u8)) (by simp only [kG,aah,aaa,aab,aac,IT,No,aad]) λy=>ay (ap (by simpa using JH ((aao (sh (aQ .i64 (1+(aap (aQ .i64 (119-(aap (imax n 0) 64))) 64)))) (0:Int)).set (sh 0) 128) (aQ .u64 ((aQ .u64 (imax n 0)) *8)) 8) λrA=> ?_)))));refine j0 ao
theorem OJ:Sm (MV.h .u32 6) (ub) (tU):=by unfold ub tU;exact ao
theorem VO (n:Int):Sm (Ld (MV.i .u8)) (Al (.i .i64 n)) (wK n):=by
 unfold Al wK;refine ay<|ap (bL (λr=>[.list (r.map (MV.i .u8))]) (λr=>(2,[.list (r.map (MV.i .u8))])) (rfl) λst=> ?_) λw=> ?_
 ·unfold pf;refine au (bx (aU (aH (iW (bG ?_ ?_)))))
  ·refine aH (ig (([0]:List Int).length) (al (dA (by simp))))
  ·exact ao
 ·refine bD rfl (au (bx (aU (ap (bL (λr=>[.list (r.1.map (MV.i .u8)),.i .i64 r.2]) (λr=>(4,[.list (r.map (MV.i .u8))])) (rfl) λaT=> ?_) λw1=> ?_))))
  ·unfold xZ;refine lf<|aJ ?_ ?_
   ·refine al (aH (ig (([aQ .u8 (aan (aQ .u64 ((aQ .u64 (imax n 0)) *8)) (2^min (sh (aQ .i64 (8 *aT.2))) (aaj .u64)))]:List Int).length) (al (dA (by simp)))))
   ·exact ao
  ·refine bD rfl (au (bx (aU ao)))
theorem eh (x:Int)(k:Int):Sm (MV.i .u32) (cX (.i .u32 x) (.i .i64 k)) (bq x k):=by unfold cX bq;refine ay (ay (al (al ao)))
theorem Hm (a:List Int):Sm (λr=> .cG [.h .u32 62 r.1,.i .i64 r.2]) (lI (.list (a.map (MV.i .u8)))) (jG a):=by
 unfold lI jG;refine bx (aH (bG ?_ ?_))
 ·exact ao
 ·refine ap (bL (λr=>[.h .u32 62 r.1,.i .i64 r.2]) (λr=>(2,[.h .u32 62 r])) (rfl) λst=> ?_) λw=> ?_
  ·unfold eL;refine au (cv (au (ay (aU (aJ ?_ ?_)))))
   ·refine cy (f:=(MV.i .u8)) (rfl) λy=>ay (al (cy (f:=(MV.i .u8)) (rfl) λy1=>ay (al (cy (f:=(MV.i .u8)) (rfl) λy2=>ay (al (cy (f:=(MV.i .u8)) (rfl) λy3=>ay (al ao)))))))
   ·exact ao
  ·refine bD rfl (au (cv (aU (ap (bL (λr=>[.h .u32 62 r.1,.i .i64 r.2]) (λr=>(4,[.h .u32 62 r])) (rfl) λaT=> ?_) λw1=> ?_))))
   ·unfold eM;refine au (cv (au (ay (aU (aJ ?_ ?_)))))
    ·refine al (al (ap (eh (aT.1.getD (sh (aQ .i64 (aT.2-15))) 0) 7) λrA=>ay (ap (eh (aT.1.getD (sh (aQ .i64 (aT.2-15))) 0) 18) λcT=>ay (al (ap (eh (aT.1.getD (sh (aQ .i64 (aT.2-2))) 0) 17) λfL=> ?_)))));refine ay<|ap (eh (aT.1.getD (sh (aQ .i64 (aT.2-2))) 0) 19) λmW=>ay (al (al (al (al ao))))
    ·exact ao
   ·refine bD rfl (au (cv (aU ao)))
theorem Lw:Sm (MV.h .u32 62) (qC) (qh):=by unfold qC qh;exact ao
theorem OL (a:List Int)(a1:List Int):Sm (λr=> .cG [.h .u32 6 r.1,.i .i64 r.2]) (uc (.h .u32 6 a) (.list (a1.map (MV.i .u8)))) (kp a a1):=by
 unfold uc kp;refine cv (bx (ap (Hm a1) λrA=>jZ (au (cv (au (ay (aU (bG ?_ ?_))))))))
 ·exact ao
 ·refine ap (Lw) λcT=>cv<|ap (bL (λr=>[.h .u32 6 r.1,.i .i64 r.2]) (λr=>(2,[.h .u32 6 r])) (rfl) λst=> ?_) λw=> ?_
  ·unfold gE;refine au (cv (au (ay (aU (aJ ?_ ?_)))))
   ·refine al (al (al (ap (eh (st.1.getD (sh 4) 0) 6) λfL=>ay (ap (eh (st.1.getD (sh 4) 0) 11) λmW=>ay (ap (eh (st.1.getD (sh 4) 0) 25) λsF=>ay (al (al (al (al ?_)))))))));refine ap (eh (st.1.getD (sh 0) 0) 2) λxy=>ay<|ap (eh (st.1.getD (sh 0) 0) 13) λxz=>ay<|ap (eh (st.1.getD (sh 0) 0) 22) λy9=>ay (al (al (al (al (al (al (al (al (al (al (al ?_)))))))))));exact ao
   ·exact ao
  ·refine bD rfl (au (cv (aU (ap (bL (λr=>[.h .u32 6 r.1,.i .i64 r.2]) (λr=>(4,[.h .u32 6 r])) (rfl) λaT=> ?_) λw1=> ?_))))
   ·unfold sK;refine au (cv (au (ay (aU (aJ ?_ ?_)))))
    ·refine al (al (al ao))
    ·exact ao
   ·refine bD rfl (au (cv (aU ao)))
theorem VP (b:List Int):Sm (MV.h .u8 30) (Am (.list (b.map (MV.i .u8)))) (wL b):=by
 unfold Am wL;refine bx (bD (fe (rfl:_=aai (MV.i .u8) b) λ_=>rfl) (ig (([]:List Int).length) (aH (al (aH (ap (VO (b.length:Int)) λrA=> ?_))))));refine bx (bD (fe (rfl:_=aai (MV.i .u8) rA) λ_=>rfl) (jD (n:=(([]:List Int)++b).length) (by simp only [AI,AS,AT,By,BY,IN,OF]) (aH (al ?_))));refine ap (bL (λr=>[.h .u32 6 r.1,.i .i64 r.2]) (λr=>(2,[.h .u32 6 r])) (rfl) λst=> ?_) λw=> ?_
 ·unfold kq;refine au (cv (au (ay (aU (jD (n:=((([]:List Int)++b)++rA).length) (by simp only [AI,AS,AT,By,BY,IN,OF]) (aJ ?_ ?_))))))
  ·refine jD (n:=((([]:List Int)++b)++rA).length) (by simp only [AI,AS,AT,By,BY,IN,OF]) (al (ap (by simpa using OL st.1 (aae (sh st.2) (aaf (sh (aQ .i64 (st.2+64))) ((([]:List Int)++b)++rA)))) λcT=> ?_));refine jZ (au (cv (au (ay (aU ao)))))
  ·exact ao
 ·refine bD rfl (au (cv (aU (ap (bL (λr=>[.h .u8 30 r.1,.i .i64 r.2]) (λr=>(4,[.h .u8 30 r])) (rfl) λaT=> ?_) λw1=> ?_))))
  ·unfold lO;refine au (cv (au (ay (aU (aJ ?_ ?_)))))
   ·refine iW (al (iW (al (al ao))))
   ·exact ao
  ·refine bD rfl (au (cv (aU ao)))
theorem Lx (sA:List UInt8):Sm (MV.h .u8 30) (qD (.s sA)) (mE sA):=by unfold qD mE;refine kT<|ap (by simpa using VP (gj sA)) λrA=>cv ao
theorem C3 (a:fg)(a1:List Int):Sm (λr=> .gk ((λ_=> .cG []) r.1) (cQ r.2)) (qE (cQ a) (.list (a1.map (MV.i .u8)))) (kr a a1):=by
 unfold qE kr;refine bx (au (cv (lf (ap (xl a1) λrA=>cv (ap (FK) λcT=>R0 (al (al (al (al (al (al (al (al (ap (bL (λr=>(v0 r)) (λr=>(2,(v1 r))) (rfl) λst=> ?_) λw=> ?_))))))))))))))
 ·unfold qi;refine au (ay (au (ay (au (ay (au (ay (au (ay (au (ay (au (ay (CY (aJ ?_ ?_)))))))))))))))
  ·refine Xh (au (aU (cv (al (al (ap (dw st.2.2.2.2.1 6) λfL=>ay (ap (dw st.2.2.2.2.1 11) λmW=>ay (ap (dw st.2.2.2.2.1 25) λsF=>ay (ap (dw st.1 2) λxy=>ay (ap (dw st.1 13) λxz=> ?_))))))))));refine ay<|ap (dw st.1 22) λy9=>ay ao
  ·exact ao
 ·refine bD rfl (au (ay (au (ay (au (ay (au (ay (au (ay (au (ay (CY (ap (bL (λr=>[.i .i64 r.1,.h .u32 6 r.2.1,.list (r.2.2.1.map (MV.i .u8)),.i .i64 r.2.2.2]) (λr=>(4,(v2 r))) (rfl) λaT=> ?_) λw1=> ?_))))))))))))))
  ·unfold qj;refine au (ay (au (cv (lf (aJ ?_ ?_)))))
   ·refine al (al (al ao))
   ·exact ao
  ·refine bD rfl (au (cv (lf ao)))
theorem C4 (sA:fg)(b:List Int):Sm (λr=> .gk ((λ_=> .cG []) r.1) (cQ r.2)) (jO (cQ sA) (.list (b.map (MV.i .u8)))) (gG sA b):=by
 unfold jO gG;refine bx (au (cv (lf (aH (bD (fe (rfl:_=aai (MV.i .u8) b) λ_=>rfl) (aH (aH (al (ap (bL (λr=>(v2 r)) (λr=>(2,(v2 r))) (by simp [cQ,v2]) λst=> ?_) λw=> ?_)))))))))
 ·unfold eN;refine au (cv (lf (aH (aJ ?_ ?_))))
  ·refine aH (al (ap (by first|(simpa [cQ,v2] using C3 (⟨st.1,st.2.1,st.2.2⟩:fg) (aae (sh 0) (aaf (sh 64) st.2.1));done)|(have hq:=C3 (⟨st.1,st.2.1,st.2.2⟩:fg) (aae (sh 0) (aaf (sh 64) st.2.1));simp only [cQ,v2,No,IT] at hq;exact hq)) λrA=> ?_));refine MH (au (cv (lf (bD (fe (rfl:_=aai (MV.i .u8) rA.2.left) λ_=>rfl) (aH (al (dA (by first|(simp [cQ,v2];done)|simp only [cQ,v2,aaa,aab,aac,IT,No,aad,Sum.map_inl,Sum.map_inr]))))))))
  ·exact ao
 ·refine bD rfl (au (cv (lf ao)))
theorem FL (a:List Int)(a1:List Int):Sm (λr=> .gk ((λ_=> .cG []) r.1) [.h .u32 6 r.2]) (ud [.h .u32 6 a] (.list (a1.map (MV.i .u8)))) (lP a a1):=by
 unfold ud lP;refine bx (au (cv (aU (ap (xl a1) λrA=>cv (ap (FK) λcT=>R0 (al (al (al (al (al (al (al (al (ap (bL (λr=>(v0 r)) (λr=>(2,(v1 r))) (rfl) λst=> ?_) λw=> ?_))))))))))))))
 ·unfold dF;refine au (ay (au (ay (au (ay (au (ay (au (ay (au (ay (au (ay (CY (aJ ?_ ?_)))))))))))))))
  ·refine Xh (au (aU (cv (al (al (ap (dw st.2.2.2.2.1 6) λfL=>ay (ap (dw st.2.2.2.2.1 11) λmW=>ay (ap (dw st.2.2.2.2.1 25) λsF=>ay (ap (dw st.1 2) λxy=>ay (ap (dw st.1 13) λxz=> ?_))))))))));refine ay<|ap (dw st.1 22) λy9=>ay ao
  ·exact ao
 ·refine bD rfl (au (ay (au (ay (au (ay (au (ay (au (ay (au (ay (CY (ap (bL (λr=>[.i .i64 r.1,.h .u32 6 r.2]) (λr=>(4,[.h .u32 6 r])) (rfl) λaT=> ?_) λw1=> ?_))))))))))))))
  ·unfold sL;refine au (ay (au (cv (aU (aJ ?_ ?_)))))
   ·refine al (al (al ao))
   ·exact ao
  ·refine bD rfl (au (cv (aU ao)))
theorem Hn (sA:fg):Sm (λr=> .gk ((MV.h .u8 30) r.1) (cQ r.2)) (lJ (cQ sA)) (lE sA):=by
 unfold lJ lE;refine au (cv (lf (aH (aH (MK (by simp only [AI]) (ap (VN sA.long) λrA=> ?_))))));refine bx (bD (fe (rfl:_=aai (MV.i .u8) rA) λ_=>rfl) (bD (fe (rfl:_=aai (MV.i .u8) sA.left) λ_=>rfl) (aH (aH (al (ap (bL (λr=>[.h .u32 6 r.1,.list (r.2.map (MV.i .u8))]) (λr=>(2,[.h .u32 6 r])) (by simp [cQ]) λst=> ?_) λw=> ?_))))))
 ·unfold gJ;refine au (cv (au (bx (aU (aH (aJ ?_ ?_))))))
  ·refine aH (al (ap (by first|(simpa [cQ] using FL st.1 (aae (sh 0) (aaf (sh 64) st.2));done)|(have hq:=FL st.1 (aae (sh 0) (aaf (sh 64) st.2));simp only [cQ,No,IT] at hq;exact hq)) λcT=> ?_));refine MH (au (cv (aU (bD (fe (rfl:_=aai (MV.i .u8) st.2) λ_=>rfl) (aH (al (dA (by first|(simp [cQ];done)|simp only [cQ,aaa,aab,aac,IT,No,aad,Sum.map_inl,Sum.map_inr]))))))))
  ·exact ao
 ·refine bD rfl (au (cv (aU (ap (bL (λr=>[.list (r.1.map (MV.i .u8)),.i .i64 r.2]) (λr=>(4,[.list (r.map (MV.i .u8))])) (rfl) λaT=> ?_) λw1=> ?_))))
  ·unfold eO;refine lf<|aJ ?_ ?_
   ·refine al<|ap (JH aT.1 (aQ .u64 (w.getD (sh aT.2) 0)) 4) λfL=>j0 ao
   ·exact ao
  ·refine bD rfl (au (bx (aU (aH (al (Vl (M:=w1) (rfl) ao))))))
theorem VQ (b:List Int):Sm (λr=> .h .u8 30 r) (An (.list (b.map (MV.i .u8)))) (wM b):=by unfold An wM;refine bx<|ap OJ λs=>cv<|ap (C4 ⟨s,[],0⟩ b) λr=>MH (au (cv (au (bx (au (ay (aU (ap (Hn r.2) λq=>MH (cv (dA rfl))))))))))
theorem Ho (sA:List UInt8):Sm (MV.h .u8 30) (lK (.s sA)) (jH sA):=by unfold lK jH;refine kT<|ap (by simpa using VQ (gj sA)) λrA=>cv ao
theorem C5 (a:List ab)(a1:List UInt8):Sm MV.b (mS (.list (a.map aR)) (.s a1)) (gK a a1):=by
 unfold mS gK;refine bx (kT ?_);refine ap (f:=λr=>[.b r]) ?_ λw=> ?_
 ·refine ap (OG a) λrA=>cL<|bG ?_ ?_
  ·exact ao
  ·exact ao
 ·refine au (cL (aU (bG ?_ ?_)))
  ·refine ap (FJ) λcT=>cL ao
  ·refine ap (Hk a) λfL=>jZ (au (kT (au (ay (aU (ap (M1 a) λmW=>bx (ap (Lu mW) λsF=>jZ (au (kT (au (ay (aU (ap (Hl a1) λxy=>jZ (lf (ap (Lv a1) λxz=> ?_)))))))))))))));refine jZ (lf ?_);refine ap (f:=λr=>[.b r]) ?_ λw1=> ?_
   ·refine ap (FJ) λy9=>cL<|bG ?_ ?_
    ·refine aJ ?_ ?_
     ·refine aJ ?_ ?_
      ·refine ap (M1 xy.1) λPl=>bx<|ap (SB Pl xz.1) λR9=>cL<|bG ?_ ?_
       ·refine aJ ?_ ?_
        ·refine ap (Ho a1) λBP=>cv<|ap (Lx a1) λVs=>cv ao
        ·exact ao
       ·exact ao
      ·exact ao
     ·exact ao
    ·exact ao
   ·refine au (cL (aU ao))
end Dn.S
