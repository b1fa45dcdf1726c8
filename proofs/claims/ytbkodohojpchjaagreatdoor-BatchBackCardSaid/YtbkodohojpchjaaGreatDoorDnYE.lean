import Derived.Test.YtbkodohojpchjaaGreatDoorDnYD
/- Both agree. Conditions: none. -/
set_option linter.unusedVariables false
set_option linter.unusedSimpArgs false
open Int renaming toNat→bB
open List renaming length_map→sh,map_append→AS,length_append→AT,length_cons→By,length_nil→BY,length_take→IN,length_drop→IT,map_replicate→No,map_cons→OF,map_take→aar,map_drop→aas,length_set→aaC,map_nil→aaS,map_set→aaT,drop→aaV,take→aaW,getElem?_eq_some_iff→aaX,map→aaY,set_getElem_self→aaZ
open Go.IntKind renaming wrap→AI,bits→aa0
open Option renaming map_some→aaR
open Sum renaming elim→aaU
open Go Dn
set_option maxRecDepth 100000
namespace Dn.S
@[reducible] def v0 (r : Int × (List av) × Int × (List ak) × (List aq) × (List ae) × Int × Int × Int × (List UInt8) × (List UInt8) × Int × Int × Int × Int × Int × Int × (List UInt8) × Int × (List (List UInt8)) × (List ay)) : List MV := [.i .i64 r.1, .list (r.2.1.map aS), .i .i64 r.2.2.1, .list (r.2.2.2.1.map aZ), .list (r.2.2.2.2.1.map bp), .list (r.2.2.2.2.2.1.map bq), .i .i64 r.2.2.2.2.2.2.1, .i .i64 r.2.2.2.2.2.2.2.1, .i .i64 r.2.2.2.2.2.2.2.2.1, .s r.2.2.2.2.2.2.2.2.2.1, .s r.2.2.2.2.2.2.2.2.2.2.1, .i .i64 r.2.2.2.2.2.2.2.2.2.2.2.1, .i .i64 r.2.2.2.2.2.2.2.2.2.2.2.2.1, .i .i64 r.2.2.2.2.2.2.2.2.2.2.2.2.2.1, .i .i64 r.2.2.2.2.2.2.2.2.2.2.2.2.2.2.1, .i .i64 r.2.2.2.2.2.2.2.2.2.2.2.2.2.2.2.1, .i .i64 r.2.2.2.2.2.2.2.2.2.2.2.2.2.2.2.2.1, .s r.2.2.2.2.2.2.2.2.2.2.2.2.2.2.2.2.2.1, .i .i64 r.2.2.2.2.2.2.2.2.2.2.2.2.2.2.2.2.2.2.1, .list (r.2.2.2.2.2.2.2.2.2.2.2.2.2.2.2.2.2.2.2.1.map MV.s), .list (r.2.2.2.2.2.2.2.2.2.2.2.2.2.2.2.2.2.2.2.2.map fj)]
@[reducible] def v1 (r : (List av) × Int × (List ak) × (List aq) × (List ae) × Int × Int × Int × (List UInt8) × (List UInt8) × Int × Int × Int × Int × Int × Int × (List UInt8) × Int × (List (List UInt8)) × (List ay)) : List MV := [.list (r.1.map aS), .i .i64 r.2.1, .list (r.2.2.1.map aZ), .list (r.2.2.2.1.map bp), .list (r.2.2.2.2.1.map bq), .i .i64 r.2.2.2.2.2.1, .i .i64 r.2.2.2.2.2.2.1, .i .i64 r.2.2.2.2.2.2.2.1, .s r.2.2.2.2.2.2.2.2.1, .s r.2.2.2.2.2.2.2.2.2.1, .i .i64 r.2.2.2.2.2.2.2.2.2.2.1, .i .i64 r.2.2.2.2.2.2.2.2.2.2.2.1, .i .i64 r.2.2.2.2.2.2.2.2.2.2.2.2.1, .i .i64 r.2.2.2.2.2.2.2.2.2.2.2.2.2.1, .i .i64 r.2.2.2.2.2.2.2.2.2.2.2.2.2.2.1, .i .i64 r.2.2.2.2.2.2.2.2.2.2.2.2.2.2.2.1, .s r.2.2.2.2.2.2.2.2.2.2.2.2.2.2.2.2.1, .i .i64 r.2.2.2.2.2.2.2.2.2.2.2.2.2.2.2.2.2.1, .list (r.2.2.2.2.2.2.2.2.2.2.2.2.2.2.2.2.2.2.1.map MV.s), .list (r.2.2.2.2.2.2.2.2.2.2.2.2.2.2.2.2.2.2.2.map fj)]
@[reducible] def v2 (r : Int × Int × Int × (List UInt8) × Int × (List (List UInt8)) × Int × Int × Int × (List UInt8) × Int × (List (List UInt8))) : List MV := [.i .i64 r.1, .i .i64 r.2.1, .i .i64 r.2.2.1, .s r.2.2.2.1, .i .i64 r.2.2.2.2.1, .list (r.2.2.2.2.2.1.map MV.s), .i .i64 r.2.2.2.2.2.2.1, .i .i64 r.2.2.2.2.2.2.2.1, .i .i64 r.2.2.2.2.2.2.2.2.1, .s r.2.2.2.2.2.2.2.2.2.1, .i .i64 r.2.2.2.2.2.2.2.2.2.2.1, .list (r.2.2.2.2.2.2.2.2.2.2.2.map MV.s)]
@[reducible] def v3 (r : Int × Int × Int × (List UInt8) × Int × (List (List UInt8)) × Bool) : List MV := [.i .i64 r.1, .i .i64 r.2.1, .i .i64 r.2.2.1, .s r.2.2.2.1, .i .i64 r.2.2.2.2.1, .list (r.2.2.2.2.2.1.map MV.s), .b r.2.2.2.2.2.2]
theorem my {A B:Type}{g:B->A}{T:Option B}{l:List MV}{K:Nat->Option A}(n:Nat)(h:Sm g (K n) T)(e:l.length=n:=by simp only [sh,By,BY]):Sm g (cn l K) T:=vM e h
theorem aW {A B C:Type}{g:B->A}{T:Option B}{f:C->MV}{M:List C}{K:Nat->Option A}(h:Sm g (K M.length) T):Sm g (cn (M.map f) K) T:=vM (sh ..) h
theorem ao {A B:Type}{g:B->A}{d:A}{a:B}(e:d=g a:=by exact rfl):Sm g (some d) (some a):=fO e
theorem Ey {A B:Type}{g:B->A}{T:Option B}{k0:IntKind}{x0:Int}{x1:Bool}{K:Int->Bool->Option A}(h:Sm g (K x0 x1) T):Sm g (oIB k0 [.i k0 x0,.b x1] K) T:=aj (aG (aj (bH (aI h))))
theorem yv {A B:Type}{g:B->A}{T:Option B}{k0 k1:IntKind}{x0:Int}{x1:Int}{K:Int->Int->Option A}(h:Sm g (K x0 x1) T):Sm g (V9 k0 k1 [.i k0 x0,.i k1 x1] K) T:=aj (aG (aj (aG (aI h))))
theorem Ku {A B:Type}{g:B->A}{T:Option B}{k0 k1 k2:IntKind}{x0:Int}{x1:Int}{x2:Int}{K:Int->Int->Int->Option A}(h:Sm g (K x0 x1 x2) T):Sm g (afR k0 k1 k2 [.i k0 x0,.i k1 x1,.i k2 x2] K) T:=aj (aG (aj (aG (aj (aG (aI h))))))
theorem nt {A B:Type}{g:B->A}{T:Option B}{k0 k1 k2 k4:IntKind}{x0:Int}{x1:Int}{x2:Int}{x3:List UInt8}{x4:Int}{x5:List MV}{K:Int->Int->Int->List UInt8->Int->List MV->Option A}(h:Sm g (K x0 x1 x2 x3 x4 x5) T):Sm g (UE k0 k1 k2 k4 [.i k0 x0,.i k1 x1,.i k2 x2,.s x3,.i k4 x4,.list x5] K) T:=aj (aG (aj (aG (aj (aG (aj (bJ (aj (aG (aj (aT (aI h))))))))))))
theorem dS {A B:Type}{g:B->A}{T:Option B}{k0 k1 k2 k5 k6 k7:IntKind}{x0:Int}{x1:Int}{x2:Int}{x3:List UInt8}{x4:List UInt8}{x5:Int}{x6:Int}{x7:Int}{K:Int->Int->Int->List UInt8->List UInt8->Int->Int->Int->Option A}(h:Sm g (K x0 x1 x2 x3 x4 x5 x6 x7) T):Sm g (M9 k0 k1 k2 k5 k6 k7 [.i k0 x0,.i k1 x1,.i k2 x2,.s x3,.s x4,.i k5 x5,.i k6 x6,.i k7 x7] K) T:=aj (aG (aj (aG (aj (aG (aj (bJ (aj (bJ (aj (aG (aj (aG (aj (aG (aI h))))))))))))))))
theorem Hp {A B:Type}{g:B->A}{T:Option B}{k0:IntKind}{x0:Int}{x1:List MV}{K:Int->List MV->Option A}(h:Sm g (K x0 x1) T):Sm g (oIL k0 [.i k0 x0,.list x1] K) T:=aj (aG (aj (aT (aI h))))
theorem sw {A B:Type}{g:B->A}{T:Option B}{k1:IntKind}{x0:List MV}{x1:Int}{K:List MV->Int->Option A}(h:Sm g (K x0 x1) T):Sm g (oLI k1 [.list x0,.i k1 x1] K) T:=aj (aT (aj (aG (aI h))))
theorem qN {A B:Type}{g:B->A}{T:Option B}{k1:IntKind}{x0:List MV}{x1:Int}{x2:List MV}{x3:List MV}{x4:List MV}{K:List MV->Int->List MV->List MV->List MV->Option A}(h:Sm g (K x0 x1 x2 x3 x4) T):Sm g (aaa k1 [.list x0,.i k1 x1,.list x2,.list x3,.list x4] K) T:=aj (aT (aj (aG (aj (aT (aj (aT (aj (aT (aI h))))))))))
theorem aA {A B:Type}{g:B->A}{T:Option B}{k1 k5 k6 k7 k10 k11 k12 k13 k14 k15 k17:IntKind}{x0:List MV}{x1:Int}{x2:List MV}{x3:List MV}{x4:List MV}{x5:Int}{x6:Int}{x7:Int}{x8:List UInt8}{x9:List UInt8}{Hg:Int}{JE:Int}{JF:Int}{JG:Int}{JH:Int}{JI:Int}{JJ:List UInt8}{Lw:Int}{Lx:List MV}{Ly:List MV}{K:List MV->Int->List MV->List MV->List MV->Int->Int->Int->List UInt8->List UInt8->Int->Int->Int->Int->Int->Int->List UInt8->Int->List MV->List MV->Option A}(h:Sm g (K x0 x1 x2 x3 x4 x5 x6 x7 x8 x9 Hg JE JF JG JH JI JJ Lw Lx Ly) T):Sm g (cK k1 k5 k6 k7 k10 k11 k12 k13 k14 k15 k17 [.list x0,.i k1 x1,.list x2,.list x3,.list x4,.i k5 x5,.i k6 x6,.i k7 x7,.s x8,.s x9,.i k10 Hg,.i k11 JE,.i k12 JF,.i k13 JG,.i k14 JH,.i k15 JI,.s JJ,.i k17 Lw,.list Lx,.list Ly] K) T:=aj (aT (aj (aG (aj (aT (aj (aT (aj (aT (aj (aG (aj (aG (aj (aG (aj (bJ (aj (bJ (aj (aG (aj (aG (aj (aG (aj (aG (aj (aG (aj (aG (aj (bJ (aj (aG (aj (aT (aj (aT (aI h))))))))))))))))))))))))))))))))))))))))
theorem Nr {A B:Type}{g:B->A}{T:Option B}{k1:IntKind}{x0:List UInt8}{x1:Int}{x2:Bool}{K:List UInt8->Int->Bool->Option A}(h:Sm g (K x0 x1 x2) T):Sm g (aja k1 [.s x0,.i k1 x1,.b x2] K) T:=aj (bJ (aj (aG (aj (bH (aI h))))))
theorem nV {A B:Type}{g:B->A}{T:Option B}{k2 k3:IntKind}{x0:List UInt8}{x1:List UInt8}{x2:Int}{x3:Int}{K:List UInt8->List UInt8->Int->Int->Option A}(h:Sm g (K x0 x1 x2 x3) T):Sm g (aec k2 k3 [.s x0,.s x1,.i k2 x2,.i k3 x3] K) T:=aj (bJ (aj (bJ (aj (aG (aj (aG (aI h))))))))
theorem Wt (lA:List ab):Sm MV.b (Bp (.list (lA.map a7))) (wI lA):=by
 unfold Bp wI;refine aT<|ar (dt (λr=>[.i .i64 r]) (aaU (λr=>(2,[])) (λr=>(1,[.b r]))) (rfl) λst=> ?_) λw=> ?_
 ·unfold Au;refine aj (aG (aI (aW (aU ?_ ?_))))
  ·refine ar (f:=λr=>[.b r]) ?_ λw1=> ?_
   ·refine aU ?_ ?_
    ·exact ao
    ·refine cF (f:=a7) (rfl) λy=>bo (dS (aU ?_ ?_))
     ·exact ao
     ·refine cF (f:=a7) (rfl) λy1=>bo (dS ao)
   ·refine aj (bH (aI (aQ ?_ ?_)))
    ·exact ao
    ·exact ao
  ·exact ao
 ·rcases w with p1|p2
  ·refine pZ rfl (aI ao)
  ·refine p0 rfl (ck rfl (aj (bH (aI ao))))
theorem Wu:Sm cG (Bq) (wJ):=by unfold Bq wJ;exact ao
theorem Wv:Sm ez (Br) (wK):=by unfold Br wK;exact ao
theorem Ww:Sm eo (Bs) (wL):=by unfold Bs wL;refine ar (Wu) λrA=>bo (aj (aT (aI (ar (Wv) λaB=>bo (Hp ao)))))
theorem Hq (o:ab):Sm a7 (nB (a7 o)) (fT o):=by
 unfold nB fT;refine bo (dS (aU ?_ ?_))
 ·exact ao
 ·refine ar (f:=(λr=>(0,[.b r]))) ?_ λw=> ?_
  ·refine aU ?_ ?_
   ·exact ao
   ·refine ar (f:=(λr=>(0,[.b r]))) ?_ λw1=> ?_
    ·refine aU ?_ ?_
     ·exact ao
     ·refine ar (f:=(λr=>(0,[.b r]))) ?_ λw2=> ?_
      ·refine aU ?_ ?_
       ·exact ao
       ·exact ao
      ·refine ck rfl (aj (bH (aI ao)))
    ·refine ck rfl (aj (bH (aI ao)))
  ·refine ck rfl (aj (bH (aI (aQ ?_ ?_))))
   ·exact ao
   ·refine aU ?_ ?_
    ·exact ao
    ·refine aU ?_ ?_
     ·exact ao
     ·refine aU ?_ ?_
      ·exact ao
      ·refine ar (f:=(λr=>(0,[.b r]))) ?_ λw3=> ?_
       ·refine aU ?_ ?_
        ·exact ao
        ·exact ao
       ·refine ck rfl (aj (bH (aI (aQ ?_ ?_))))
        ·exact ao
        ·refine aU ?_ ?_
         ·exact ao
         ·exact ao
theorem FG (o:ab):Sm MV.b (sK (a7 o)) (fP o):=by
 unfold sK fP;refine bo (dS ?_);refine ar (f:=λr=>[.b r]) ?_ λw=> ?_
 ·refine aU ?_ ?_
  ·refine aU ?_ ?_
   ·refine aU ?_ ?_
    ·exact ao
    ·exact ao
   ·exact ao
  ·exact ao
 ·refine aj (bH (aI ?_));refine ar (f:=λr=>[.b r]) ?_ λw1=> ?_
  ·refine aQ ?_ ?_
   ·refine aU ?_ ?_
    ·refine aU ?_ ?_
     ·refine aU ?_ ?_
      ·refine aU ?_ ?_
       ·refine ar (Hq o) λrA=>bo (dS ao)
       ·exact ao
      ·exact ao
     ·exact ao
    ·exact ao
   ·exact ao
  ·refine aj (bH (aI ao))
theorem SR (x:Int):Sm (MV.i .i64) (xW (.i .u64 x)) (p7 x):=by
 unfold xW p7;refine aG<|ar (f:=(λr=>(0,[.i .u64 r.1,.i .i64 r.2]))) ?_ λw=> ?_
 ·refine aU ?_ ?_
  ·refine b9 ao
  ·exact ao
 ·refine ck rfl (yv (ar (f:=(λr=>(0,[.i .u64 r.1,.i .i64 r.2]))) ?_ λw1=> ?_))
  ·refine aU ?_ ?_
   ·refine b9 ao
   ·exact ao
  ·refine ck rfl (yv (ar (f:=(λr=>(0,[.i .u64 r.1,.i .i64 r.2]))) ?_ λw2=> ?_))
   ·refine aU ?_ ?_
    ·refine b9 ao
    ·exact ao
   ·refine ck rfl (yv (b9 ao))
theorem SS (n:Int):Sm (MV.i .i64) (xX (.i .u64 n)) (nO n):=by unfold xX nO;refine aG<|ar (SR n) λrA=>aG (acH ao)
theorem Hr (sA:List Int):Sm (ai6 (MV.i .u8)) (nC (.list (sA.map (MV.i .u8)))) (iC sA):=by unfold nC iC;refine aT (aW (aW (acO (by simp only [sh]) ao)))
theorem FH (b:List Int)(n:Int):Sm (Lu (MV.i .u8)) (sL (.list (b.map (MV.i .u8))) (.i .u64 n)) (mc b n):=by
 unfold sL mc;refine aT (aG (ar (SS n) λrA=>aG (ar (Hr b) λaB=> ?_)));refine afQ (ck (xT (rfl:_=aaY (MV.i .u8) aB) λ_=>rfl) (aW (my (([AI .u8 (AI .i64 (rA-1))]:List Int).length) (b9 (ar (dt (λr=>[.list (r.1.map (MV.i .u8)),.i .i64 r.2]) (λr=>(2,[.list (r.map (MV.i .u8))])) (by simp) λst=> ?_) λw=> ?_)))))
 ·unfold lJ;refine sw<|aU ?_ ?_
  ·refine b9 (aW (my (([AI .u8 (Int.fdiv n (2^min (bB (AI .i64 (8 *st.2))) (aa0 .u64)))]:List Int).length) (b9 (fO (by simp)))))
  ·exact ao
 ·refine ck rfl (aj (aT (aI ao)))
theorem Kv (b:List Int)(sA:List UInt8):Sm (Lu (MV.i .u8)) (tA (.list (b.map (MV.i .u8))) (.s sA)) (lK b sA):=by unfold tA lK;refine aT (bJ (ar (FH b (AI .u64 (sA.length:Int))) λrA=>mE (aW (vM (n:=(uu sA).length) (by simp only [rY,sh,AT,By,BY,IN,IT,aaC]) (b9 ?_)))));exact fO (by simp)
theorem Wx (b:List Int)(n:Int):Sm (Lu (MV.i .u8)) (Bt (.list (b.map (MV.i .u8))) (.i .i64 n)) (p8 b n):=by unfold Bt p8;refine aT (aG (b9 (b9 (ar (FH b (Cf .u64 (AI .u64 ((AI .u64 n) *2^min (bB 1) (aa0 .u64))) (AI .u64 (Int.fdiv n (2^min (bB 63) (aa0 .i64)))))) λrA=>mE ao))))
theorem SU (b:List Int)(lA:List Int):Sm (V2 (MV.i .u8)) (xY (.list (b.map (MV.i .u8))) (.list (lA.map (MV.i .i64)))) (nP b lA):=by
 unfold xY nP;refine aT (aT (aW (ar (dt (λr=>[.list (r.1.map (MV.i .u8)),.i .i64 r.2]) (λr=>(2,[.list (r.map (MV.i .u8))])) (rfl) λst=> ?_) λw=> ?_)))
 ·unfold mf;refine sw<|aU ?_ ?_
  ·refine cF (f:=(MV.i .i64)) (rfl) λy=>aG<|ar (Wx st.1 y) λrA=>mE ao
  ·exact ao
 ·refine ck rfl (aj (aT (aI ao)))
theorem Wy (b:List Int)(o:ab):Sm (Lu (MV.i .u8)) (Bu (.list (b.map (MV.i .u8))) (a7 o)) (p9 b o):=by unfold Bu p9;refine aT (bo (dS (ar (SU b ([o.Client,o.Seq,o.Kind,o.Version,o.Session,o.Span]:List Int)) λrA=>aT (ar (Kv rA o.Path) λaB=>mE (ar (Kv aB o.Value) λbK=>mE ao)))))
theorem yw (lA:List ab):Sm (λr=> .bW [.s r.1,.i .i64 r.2]) (mj (.list (lA.map a7))) (dP lA):=by
 unfold mj dP;refine aT (aW (aU ?_ ?_))
 ·exact ao
 ·refine aW<|ar (FH ([]:List Int) (AI .u64 (lA.length:Int))) λrA=>mE (aW (ar (dt (λr=>[.list (r.1.map (MV.i .u8)),.i .i64 r.2]) (aaU (λr=>(2,[.list (r.map (MV.i .u8))])) (λr=>(1,[.s r.1,.i .i64 r.2]))) (rfl) λst=> ?_) λw=> ?_))
  ·unfold fm;refine sw<|aU ?_ ?_
   ·refine cF (f:=a7) (rfl) λy=>bo (dS (ar (FG y) λaB=>bH (aQ ?_ ?_)))
    ·exact ao
    ·refine ar (Wy st.1 y) λbK=>mE ao
   ·exact ao
  ·rcases w with p1|p2
   ·refine pZ rfl (aj (aT (aI (Z4 (M:=p1) (rfl) λbs=>ao))))
   ·refine p0 rfl (ck rfl (aj (bJ (aj (aG (aI ao))))))
theorem CH (b:List Int):Sm (λr=> .bW [.i .u64 r.1,.list (r.2.1.map (MV.i .u8)),.i .i64 r.2.2]) (qh (.list (b.map (MV.i .u8)))) (kb b):=by
 unfold qh kb;refine aT (aW (aU ?_ ?_))
 ·exact ao
 ·refine cF (f:=(MV.i .u8)) (rfl) λy=> ?_;refine aG (ck (xT (rfl:_=aaY (MV.i .u8) b) λ_=>rfl) (aW (b9 ?_)));refine ar (f:=λr=>[.b r]) ?_ λw=> ?_
  ·refine aU ?_ ?_
   ·exact ao
   ·refine aU ?_ ?_
    ·refine vM (n:=(aaV (bB 1) (aaW (bB (b.length:Int)) b)).length) (by simp only [sh,AT,By,BY,IN,IT,aaC])<|aU ?_ ?_
     ·refine cF (f:=(MV.i .u8)) (by simp only [rY,No,AS,OF,aaS,aar,aas,aaT]) λy1=>aG ao
     ·exact ao
    ·exact ao
  ·refine aj (bH (aI (aQ ?_ ?_)))
   ·exact ao
   ·refine vM (n:=(aaV (bB 1) (aaW (bB (b.length:Int)) b)).length) (by simp only [sh,AT,By,BY,IN,IT,aaC])<|aU ?_ ?_
    ·exact ao
    ·refine vM (n:=(aaV (bB 1) (aaW (bB (b.length:Int)) b)).length) (by simp only [sh,AT,By,BY,IN,IT,aaC]) (b9 (vM (n:=(aaV (bB 0) (aaW (bB (AI .i64 y)) (aaV (bB 1) (aaW (bB (b.length:Int)) b)))).length) (by simp only [sh,AT,By,BY,IN,IT,aaC]) ?_));refine ar (dt (λr=>[.i .u64 r.1,.i .i64 r.2]) (λr=>(3,[.i .u64 r])) (rfl) λst=> ?_) λw1=> ?_
     ·unfold ka;refine yv<|aU ?_ ?_
      ·refine cF (f:=(MV.i .u8)) (by simp only [rY,No,AS,OF,aaS,aar,aas,aaT]) λy2=>aG (b9 ao)
      ·exact ao
     ·refine ck rfl (aj (aG (aI (ck (xT ((by simp only [rY,No,AS,OF,aaS,aar,aas,aaT]):_=aaY (MV.i .u8) (aaV (bB 1) (aaW (bB (b.length:Int)) b))) λ_=>rfl) (vM (n:=(aaV (bB 1) (aaW (bB (b.length:Int)) b)).length) (by simp only [sh,AT,By,BY,IN,IT,aaC]) (b9 ?_))))));exact fO (by first|(simp;done)|simp only [AS,OF,aaS,aar,aas,aaT])
theorem LP (b:List Int):Sm (λr=> .bW [.i .i64 r.1,.list (r.2.1.map (MV.i .u8)),.i .i64 r.2.2]) (qF (.list (b.map (MV.i .u8)))) (gy b):=by unfold qF gy;refine aT<|ar (CH b) λrA=>cz (aj (aG (sw (b9 ao))))
theorem Kw (b:List Int)(most:Int):Sm (λr=> .bW [.s r.1,.list (r.2.1.map (MV.i .u8)),.i .i64 r.2.2]) (o7 (.list (b.map (MV.i .u8))) (.i .i64 most)) (fp b most):=by
 unfold o7 fp;refine aT (aG (ar (CH b) λrA=>cz (aj (aG (sw (aQ ?_ ?_))))))
 ·exact ao
 ·refine aU ?_ ?_
  ·exact ao
  ·refine aW<|aU ?_ ?_
   ·exact ao
   ·refine aW (b9 (Z4 (M:=aaV (bB 0) (aaW (bB rA.1) rA.2.1)) ((by simp only [rY,No,AS,OF,aaS,aar,aas,aaT])) λbs=> ?_));refine ck (xT (rfl:_=aaY (MV.i .u8) rA.2.1) λ_=>rfl) (aW (b9 (fO (by first|(simp;done)|simp only [AS,OF,aaS,aar,aas,aaT]))))
theorem Ns {j:Nat}{b:List Int}{e x:Int}{os:List MV}(h:os[j]? =some (.i .i64 x)):tkI ca y6 j ⟨b.map (MV.i .u8),e,os⟩=(nh b e x).map λr=>⟨r.2.1.map (MV.i .u8),r.2.2,os.set j (.i .i64 r.1)⟩:=by
 unfold tkI nh;by_cases he:e=0
 ·rw [if_pos he,if_pos he];show (match ca y6.ti [.list (b.map (MV.i .u8))] with|some (.bW [.i .i64 n,.list xs,.i .i64 e])=>_|_=>none)=_;rw [show ca y6.ti [.list (b.map (MV.i .u8))]=qF (.list (b.map (MV.i .u8))) from by kernel_rfl];have h:=LP b;unfold Sm at h;rw [h];cases gy b<;>rfl
 ·rw [if_neg he,if_neg he];obtain ⟨hl,hx⟩:=aaX.1 h;have hs:os.set j (.i .i64 x)=os:=by rw [<-hx,aaZ]
  show _=some (⟨b.map (MV.i .u8),e,os.set j (.i .i64 x)⟩:Qy);rw [hs]
theorem aej {j:Nat}{b:List Int}{e most:Int}{os:List MV}(h:os[j]? =some (.s [])):Qz ca y6 j most ⟨b.map (MV.i .u8),e,os⟩=(qX b e most).map λr=>⟨r.2.1.map (MV.i .u8),r.2.2,os.set j (.s r.1)⟩:=by
 unfold Qz qX;by_cases he:e=0
 ·rw [if_pos he,if_pos he];show (match ca y6.tx [.list (b.map (MV.i .u8)),.i .i64 most] with|some (.bW [.s l,.list xs,.i .i64 e])=>_|_=>none)=_;rw [show ca y6.tx [.list (b.map (MV.i .u8)),.i .i64 most]=o7 (.list (b.map (MV.i .u8))) (.i .i64 most) from by kernel_rfl];have h:=Kw b most;unfold Sm at h;rw [h];cases fp b most<;>rfl
 ·rw [if_neg he,if_neg he];obtain ⟨hl,hx⟩:=aaX.1 h;have hs:os.set j (.s [])=os:=by rw [<-hx,aaZ]
  show _=some (⟨b.map (MV.i .u8),e,os.set j (.s [])⟩:Qy);rw [hs]
theorem SV (b:List Int):Sm (λr=> .bW [a7 r.1,.list (r.2.1.map (MV.i .u8)),.i .i64 r.2.2]) (CB (.list (b.map (MV.i .u8)))) (nQ b):=by
 show QA ca y6 (b.map (MV.i .u8))=_;unfold QA nQ;simp only [Ft];rw [Ns (j:=0) (x:=0) rfl];cases nh b 0 0 with|none=>rfl|some r0=> ?_;simp only [aaR,cU];rw [Ns (j:=1) (x:=0) rfl];cases nh r0.2.1 r0.2.2 0 with|none=>rfl|some r1=> ?_;simp only [aaR,cU];rw [Ns (j:=2) (x:=0) rfl];cases nh r1.2.1 r1.2.2 0 with|none=>rfl|some r2=> ?_;simp only [aaR,cU];rw [Ns (j:=5) (x:=0) rfl];cases nh r2.2.1 r2.2.2 0 with|none=>rfl|some r3=> ?_;simp only [aaR,cU];rw [Ns (j:=6) (x:=0) rfl];cases nh r3.2.1 r3.2.2 0 with|none=>rfl|some r4=> ?_;simp only [aaR,cU];rw [Ns (j:=7) (x:=0) rfl];cases nh r4.2.1 r4.2.2 0 with|none=>rfl|some r5=> ?_;simp only [aaR,cU];rw [aej (j:=3) rfl];cases qX r5.2.1 r5.2.2 100 with|none=>rfl|some s0=> ?_;simp only [aaR,cU];rw [aej (j:=4) rfl];cases qX s0.2.1 s0.2.2 1000 with|none=>rfl|some s1=> ?_;simp only [aaR,cU];by_cases he:s1.2.2=0;rotate_left
 ·rw [if_neg he,if_neg he];rfl
 rw [if_pos he,if_pos he];have h:=FG (⟨r0.1,r1.1,r2.1,s0.1,s1.1,r3.1,r4.1,r5.1⟩:ab);unfold Sm at h;show (match ca y6.may [a7 (⟨r0.1,r1.1,r2.1,s0.1,s1.1,r3.1,r4.1,r5.1⟩:ab)] with|some (.b true)=>_|some (.b false)=>_|_=>none)=_;rw [show ca y6.may [a7 (⟨r0.1,r1.1,r2.1,s0.1,s1.1,r3.1,r4.1,r5.1⟩:ab)]=sK (a7 (⟨r0.1,r1.1,r2.1,s0.1,s1.1,r3.1,r4.1,r5.1⟩:ab)) from by kernel_rfl,h];cases fP (⟨r0.1,r1.1,r2.1,s0.1,s1.1,r3.1,r4.1,r5.1⟩:ab) with
 |none=>rfl
 |some m=>cases m<;>rfl
theorem sB (sA:List UInt8):Sm (λr=> .bW [.list (r.1.map a7),.i .i64 r.2]) (kh (.s sA)) (cW sA):=by
 unfold kh cW;refine bJ ?_;refine ar (by rw [rY];exact CH (uu sA)) λrA=> ?_;refine cz (aj (aG (sw ?_)));refine ar (f:=λr=>[.b r]) ?_ λw=> ?_
 ·refine aQ ?_ ?_
  ·exact ao
  ·exact ao
 ·refine aj (bH (aI (aQ ?_ ?_)))
  ·exact ao
  ·refine b9 (vM (n:=(List.replicate (bB rA.1) (⟨0,0,0,([]:List UInt8),([]:List UInt8),0,0,0⟩:ab)).length) (by simp only [List.length_replicate,sh,AT,By,BY,IN,IT,aaC]) ?_);refine ar (dt (λr=>[.list (r.1.map (MV.i .u8)),.list (r.2.1.map a7),.i .i64 r.2.2]) (aaU (λr=>(2,[.list (r.1.map (MV.i .u8)),.list (r.2.map a7)])) (λr=>(1,[.list (r.1.map a7),.i .i64 r.2]))) (by simp [cv]) λst=> ?_) λw1=> ?_
   ·unfold fq;refine aj (aT (sw (aU ?_ ?_)))
    ·refine ar (SV st.1) λaB=>cz (aj (bo (dS (sw (cF (f:=a7) (rfl) λy=>bo (dS (aQ ?_ ?_)))))))
     ·exact ao
     ·exact fO (by simp [cv])
    ·exact ao
   ·rcases w1 with p1|p2
    ·refine pZ rfl (aj (aT (aj (aT (aI (aW (aU ?_ ?_)))))))
     ·exact ao
     ·exact ao
    ·refine p0 rfl (ck rfl (sw ao))
theorem Ez (x:Int):Sm MV.b (o8 (.i .i64 x)) (mg x):=by unfold o8 mg;refine aG ao
theorem AQ (x:Int)(y:Int):Sm (MV.i .i64) (lO (.i .i64 x) (.i .i64 y)) (jI x y):=by
 unfold lO jI;refine aG (aG (ar (Ez x) λrA=>bH (ar (Ez y) λaB=>bH (aQ ?_ ?_))))
 ·refine aQ ?_ ?_
  ·exact ao
  ·exact ao
 ·refine aQ ?_ ?_
  ·exact ao
  ·refine aU ?_ ?_
   ·exact ao
   ·refine aU ?_ ?_
    ·exact ao
    ·exact ao
theorem CJ (x:ae)(c9:Int):Sm (MV.i .i64) (ki (bq x) (.i .i64 c9)) (eU x c9):=by unfold ki eU;refine bo (nt (aG (ar (AQ x.Client c9) λrA=>aG ao)))
theorem mV (x:List ae)(target:Int)(cmp:ae->Int->Option Int){M3:Nat}{DC:List MV}(GR:gv M3=false)(eT: ∀(u0:ae)(u1:Int),Sm (MV.i .i64) (cC M3 ([bq u0,.i .i64 u1]++DC)) (cmp u0 u1)):Sm (λr=> .bW [.i .i64 r.1,.b r.2]) (cM (.list (x.map bq)) (.i .i64 target) (.func M3 DC)) (bV x target cmp):=by
 unfold cM bV;refine aT (aG (xS (aW (ar (dt (λr=>[.i .i64 r.1,.i .i64 r.2]) (λr=>(2,[.i .i64 r])) (rfl) λst=> ?_) λw=> ?_))))
 ·unfold cA;refine yv<|aU ?_ ?_
  ·refine b9<|cF (f:=bq) (rfl) λy=> ?_;refine bo (nt (xR (ck (by rw [GR];rfl) ?_)));refine ar (eT y target) λrA=>aG<|ar (f:=(λr=>(0,[.i .i64 r.1,.i .i64 r.2]))) ?_ λw1=> ?_
   ·refine aU ?_ ?_
    ·exact ao
    ·exact ao
   ·refine ck rfl (yv ao)
  ·exact ao
 ·refine ck rfl (aj (aG (aI ?_)));refine ar (f:=λr=>[.i .i64 r.1,.b r.2]) ?_ λw2=> ?_
  ·refine aU ?_ ?_
   ·refine cF (f:=bq) (rfl) λy1=> ?_;refine bo (nt (xR (ck (by rw [GR];rfl) ?_)));refine ar (eT y1 target) λaB=>aG ao
   ·exact ao
  ·refine Ey ao
theorem wZ (rA:ax)(c9:Int):Sm (λr=> .bW [.i .i64 r.1,.b r.2]) (jN (eo rA) (.i .i64 c9)) (gD rA c9):=by unfold jN gD;refine bo (qN (aG (ar (mV rA.Seen c9 eU (M3:=120) (DC:=[]) rfl (λu2 u3=>Sm.at (fV _ _) (CJ u2 u3))) λaB=> ?_)));refine cz (Ey ao)
theorem SW (rA:ax)(c9:Int):Sm (λr=> .bW [bq r.1,.b r.2]) (yb (eo rA) (.i .i64 c9)) (tc rA c9):=by
 unfold yb tc;refine bo (qN (aG (ar (wZ rA c9) λaB=>cz (Ey (aQ ?_ ?_)))))
 ·exact ao
 ·refine cF (f:=bq) (rfl) λy=>bo (nt ao)
theorem FI (rA:ax)(o:ab):Sm (λr=> .bW [bq r.1,.b r.2]) (ml (eo rA) (a7 o)) (jJ rA o):=by
 unfold ml jJ;refine bo (qN (bo (dS (ar (SW rA o.Client) λaB=>cz (aj (bo (nt (aj (bH (aI (ar (FG o) λbK=>bH (ar (f:=(aaU (λr=>(0,(v2 r))) (λr=>(1,(v3 r))))) ?_ λw=> ?_))))))))))))
 ·refine aQ ?_ ?_
  ·exact ao
  ·refine ar (f:=λr=>[.b r]) ?_ λw1=> ?_
   ·refine aQ ?_ ?_
    ·exact ao
    ·exact ao
   ·refine aj (bH (aI (aQ ?_ ?_)))
    ·exact ao
    ·refine ar (f:=λr=>[.b r]) ?_ λw2=> ?_
     ·refine aQ ?_ ?_
      ·exact ao
      ·exact ao
     ·refine aj (bH (aI (ar (f:=(aaU (λr=>(0,(v2 r))) (λr=>(1,(v3 r))))) ?_ λw3=> ?_)))
      ·refine aQ ?_ ?_
       ·exact ao
       ·refine ar (f:=λr=>[.b r]) ?_ λw4=> ?_
        ·refine aQ ?_ ?_
         ·refine aW ao
         ·exact ao
        ·refine aj (bH (aI (aQ ?_ ?_)))
         ·exact ao
         ·exact ao
      ·rcases w3 with p2|p3
       ·refine pZ rfl (aj (aG (aj (aG (aj (aG (aj (bJ (aj (aG (aj (aT (nt ao)))))))))))))
       ·refine p0 rfl (ck rfl (aj (aG (aj (aG (aj (aG (aj (bJ (aj (aG (aj (aT (aj (bH (aI ao))))))))))))))))
 ·rcases w with p4|p5
  ·refine pZ rfl (aj (aG (aj (aG (aj (aG (aj (bJ (aj (aG (aj (aT (nt ao)))))))))))))
  ·refine p0 rfl (ck rfl (aj (aG (aj (aG (aj (aG (aj (bJ (aj (aG (aj (aT (aj (bH (aI ao))))))))))))))))
theorem CL (w:ah):Sm (λr=> .dx ((λ_=> .bW []) r.1) (bw r.2)) (kj (bw w)) (gO w):=by unfold kj gO;refine aA ao
theorem EA (x:ak)(id:Int):Sm (MV.i .i64) (lg (aZ x) (.i .i64 id)) (fQ x id):=by unfold lg fQ;refine bo (Ku (aG (ar (AQ x.Id id) λrA=>aG ao)))
theorem lS (x:List ak)(target:Int)(cmp:ak->Int->Option Int){M3:Nat}{DC:List MV}(GR:gv M3=false)(eE: ∀(u0:ak)(u1:Int),Sm (MV.i .i64) (cf M3 ([aZ u0,.i .i64 u1]++DC)) (cmp u0 u1)):Sm (λr=> .bW [.i .i64 r.1,.b r.2]) (cD (.list (x.map aZ)) (.i .i64 target) (.func M3 DC)) (bP x target cmp):=by
 unfold cD bP;refine aT (aG (xS (aW (ar (dt (λr=>[.i .i64 r.1,.i .i64 r.2]) (λr=>(2,[.i .i64 r])) (rfl) λst=> ?_) λw=> ?_))))
 ·unfold cb;refine yv<|aU ?_ ?_
  ·refine b9<|cF (f:=aZ) (rfl) λy=> ?_;refine bo (Ku (xR (ck (by rw [GR];rfl) ?_)));refine ar (eE y target) λrA=>aG<|ar (f:=(λr=>(0,[.i .i64 r.1,.i .i64 r.2]))) ?_ λw1=> ?_
   ·refine aU ?_ ?_
    ·exact ao
    ·exact ao
   ·refine ck rfl (yv ao)
  ·exact ao
 ·refine ck rfl (aj (aG (aI ?_)));refine ar (f:=λr=>[.i .i64 r.1,.b r.2]) ?_ λw2=> ?_
  ·refine aU ?_ ?_
   ·refine cF (f:=aZ) (rfl) λy1=> ?_;refine bo (Ku (xR (ck (by rw [GR];rfl) ?_)));refine ar (eE y1 target) λaB=>aG ao
   ·exact ao
  ·refine Ey ao
theorem nH (b:aC)(id:Int):Sm (λr=> .bW [.i .i64 r.1,.b r.2]) (fW (ez b) (.i .i64 id)) (eK b id):=by unfold fW eK;refine bo (Hp (aG (ar (lS b.L id fQ (M3:=144) (DC:=[]) rfl (λu2 u3=>Sm.at (fK _ _) (EA u2 u3))) λrA=>cz (Ey ?_))));exact ao
theorem Wz (b:aC)(id:Int):Sm MV.b (Bv (ez b) (.i .i64 id)) (wM b id):=by unfold Bv wM;refine bo (Hp (aG (ar (nH b id) λrA=>cz (Ey ao))))
theorem zE (sA:List UInt8)(bx:List UInt8):Sm MV.b (ia (.s sA) (.s bx)) (eR sA bx):=by
 unfold ia eR;refine bJ (bJ ?_);refine ar (f:=λr=>[.b r]) ?_ λw=> ?_
 ·refine aU ?_ ?_
  ·refine b9 ao
  ·exact ao
 ·refine aj (bH (aI ao))
theorem zF (sA:List UInt8)(bx:List UInt8):Sm (λr=> .bW [.s r.1,.b r.2]) (ib (.s sA) (.s bx)) (eS sA bx):=by
 unfold ib eS;refine bJ (bJ (ar (zE sA bx) λrA=>bH (aQ ?_ ?_)))
 ·exact ao
 ·refine b9 ao
theorem EB (sA:List UInt8)(bx:List UInt8):Sm (λr=> .bW [.s r.1,.b r.2]) (lh (.s sA) (.s bx)) (iQ sA bx):=by unfold lh iQ;refine bJ (bJ (ar (zF sA bx) λrA=>cz (aj (bJ (aj (bH (aI ao)))))))
theorem LQ (c:Int):Sm MV.b (qG (.i .i32 c)) (kN c):=by unfold qG kN;refine aG<|ar (V3 ([97,98,99,100,101,102,103,104,105,106,107,108,109,110,111,112,113,114,115,116,117,118,119,120,121,122,48,49,50,51,52,53,54,55,56,57,45,95]:List UInt8) c) λrA=>bH ao
theorem Hs (sA:List UInt8)(f:Int->Option Bool)(pM:Bool){BJ:Nat}{uv:List MV}(Lk:gv BJ=false)(jc: ∀(u0:Int),Sm MV.b (iY BJ ([.i .i32 u0]++uv)) (f u0)):Sm (MV.i .i64) (nD (.s sA) (.func BJ uv) (.b pM)) (kD sA f pM):=by
 unfold nD kD;refine bJ (xS (bH (ar (dt (λr=>[.list r]) (aaU (λr=>(2,[])) (λr=>(1,[.i .i64 r]))) (rfl) λst=> ?_) λw=> ?_)))
 ·unfold kZ;refine aj (aT (aI (aQ ?_ ?_)))
  ·refine xR (ck (by rw [Lk];rfl) ?_);refine ar (jc (Ch st)) λrA=>bH<|aU ?_ ?_
   ·exact ao
   ·exact ao
  ·exact ao
 ·rcases w with p1|p2
  ·refine pZ rfl (aI ao)
  ·refine p0 rfl (ck rfl (aj (aG (aI ao))))
theorem EC (sA:List UInt8)(f:Int->Option Bool){BJ:Nat}{uv:List MV}(Lk:gv BJ=false)(jc: ∀(u0:Int),Sm MV.b (iY BJ ([.i .i32 u0]++uv)) (f u0)):Sm (MV.i .i64) (li (.s sA) (.func BJ uv)) (iR sA f):=by unfold li iR;refine bJ (xS (ar (Hs sA f true Lk jc) λrA=>aG ao))
theorem AR (sA:List UInt8)(f:Int->Option Bool){BJ:Nat}{uv:List MV}(Lk:gv BJ=false)(jc: ∀(u0:Int),Sm MV.b (iY BJ ([.i .i32 u0]++uv)) (f u0)):Sm MV.b (iZ (.s sA) (.func BJ uv)) (ft sA f):=by unfold iZ ft;refine bJ (xS (ar (EC sA f Lk jc) λrA=>aG ao))
theorem QO (sA:List UInt8):Sm MV.b (vc (.s sA)) (qY sA):=by
 unfold vc qY;refine bJ ?_;refine ar (f:=λr=>[.b r]) ?_ λw=> ?_
 ·refine aQ ?_ ?_
  ·refine aU ?_ ?_
   ·refine ar (afP sA ([97,98,99,100,101,102,103,104,105,106,107,108,109,110,111,112,113,114,115,116,117,118,119,120,121,122,48,49,50,51,52,53,54,55,56,57,45,95]:List UInt8)) λrA=>bJ<|aU ?_ ?_
    ·refine ar (AR sA kN (BJ:=237) (uv:=[]) rfl (λu1=>Sm.at (ru _) (LQ u1))) λaB=>bH ao
    ·exact ao
   ·exact ao
  ·exact ao
 ·refine aj (bH (aI ao))
theorem OV (sA:List UInt8):Sm MV.b (sf (.s sA)) (mh sA):=by unfold sf mh;refine bJ<|ar (QO sA) λrA=>bH ao
theorem yx (sA:List (List UInt8))(f:(List UInt8)->Option Bool){BJ:Nat}{uv:List MV}(Lk:gv BJ=false)(ji: ∀(u0:List UInt8),Sm MV.b (fa BJ ([.s u0]++uv)) (f u0)):Sm (MV.i .i64) (gq (.list (sA.map MV.s)) (.func BJ uv)) (eA sA f):=by
 unfold gq eA;refine aT (xS (aW (ar (dt (λr=>[.i .i64 r]) (aaU (λr=>(2,[])) (λr=>(1,[.i .i64 r]))) (rfl) λst=> ?_) λw=> ?_)))
 ·unfold eZ;refine aj (aG (aI (aU ?_ ?_)))
  ·refine cF (f:=MV.s) (rfl) λy=> ?_;refine bJ (xR (ck (by rw [Lk];rfl) ?_));refine ar (ji y) λrA=>bH<|aQ ?_ ?_
   ·exact ao
   ·exact ao
  ·exact ao
 ·rcases w with p1|p2
  ·refine pZ rfl (aI ao)
  ·refine p0 rfl (ck rfl (aj (aG (aI ao))))
theorem uB (sA:List (List UInt8))(f:(List UInt8)->Option Bool){BJ:Nat}{uv:List MV}(Lk:gv BJ=false)(ji: ∀(u0:List UInt8),Sm MV.b (fa BJ ([.s u0]++uv)) (f u0)):Sm MV.b (eO (.list (sA.map MV.s)) (.func BJ uv)) (dD sA f):=by unfold eO dD;refine aT (xS (ar (yx sA f Lk ji) λrA=>aG ao))
theorem qj (p:List UInt8):Sm (λr=> .bW [.list (r.1.map MV.s),.b r.2]) (km (.s p)) (jh p):=by
 unfold km jh;refine bJ<|ar (EB p ([47]:List UInt8)) λrA=>cz (aj (bJ (aj (bH (aI ?_)))));refine ar (f:=λr=>[.b r]) ?_ λw=> ?_
 ·refine aQ ?_ ?_
  ·exact ao
  ·exact ao
 ·refine aj (bH (aI (aQ ?_ ?_)))
  ·exact ao
  ·refine aU ?_ ?_
   ·exact ao
   ·refine ar (acL rA.1 ([47]:List UInt8)) λaB=>mE ?_;refine ar (f:=λr=>[.list (r.1.map MV.s),.b r.2.1,.list (r.2.2.map MV.s)]) ?_ λw1=> ?_
    ·refine aW<|aU ?_ ?_
     ·refine ar (uB aB mh (BJ:=196) (uv:=[]) rfl (λu1=>Sm.at (nT _) (OV u1))) λbK=>bH ao
     ·exact ao
    ·refine aj (aT (aj (bH (aj (aT (aI ao))))))
theorem zg (x:List UInt8):Sm MV.b (kI (.s x)) (iD x):=by unfold kI iD;refine bJ ao
theorem ED (x:List UInt8)(y:List UInt8):Sm (MV.i .i64) (lj (.s x) (.s y)) (iS x y):=by
 unfold lj iS;refine bJ (bJ (ar (zg x) λrA=>bH (ar (zg y) λaB=>bH (aQ ?_ ?_))))
 ·refine aQ ?_ ?_
  ·exact ao
  ·exact ao
 ·refine aQ ?_ ?_
  ·exact ao
  ·refine aQ ?_ ?_
   ·exact ao
   ·refine aQ ?_ ?_
    ·exact ao
    ·exact ao
theorem AU (s1:List (List UInt8))(s2:List (List UInt8)):Sm (MV.i .i64) (ja (.list (s1.map MV.s)) (.list (s2.map MV.s))) (fw s1 s2):=by
 unfold ja fw;refine aT (aT (aW (ar (dt (λr=>[.i .i64 r]) (aaU (λr=>(2,[])) (λr=>(1,[.i .i64 r]))) (rfl) λst=> ?_) λw=> ?_)))
 ·unfold gp;refine aj (aG (aI (aU ?_ ?_)))
  ·refine cF (f:=MV.s) (rfl) λy=>bJ (aW (aU ?_ ?_))
   ·exact ao
   ·refine cF (f:=MV.s) (rfl) λy1=>bJ<|ar (ED y y1) λrA=>aG<|aQ ?_ ?_
    ·exact ao
    ·exact ao
  ·exact ao
 ·rcases w with p1|p2
  ·refine pZ rfl (aI (aW (aW (aU ?_ ?_))))
   ·exact ao
   ·exact ao
  ·refine p0 rfl (ck rfl (aj (aG (aI ao))))
theorem SX (p:List UInt8)(q:List UInt8):Sm MV.b (ye (.s p) (.s q)) (td p q):=by
 unfold ye td;refine bJ (bJ (ar (qj p) λrA=>cz (aj (aT (aj (bH (aI (ar (qj q) λaB=>cz (aj (aT (aj (bH (aI ?_)))))))))))));refine ar (f:=λr=>[.b r]) ?_ λw=> ?_
 ·refine aQ ?_ ?_
  ·refine aQ ?_ ?_
   ·refine ar (AU rA.1 aB.1) λbK=>aG ao
   ·exact ao
  ·exact ao
 ·refine aj (bH (aI ao))
theorem CM (n:av)(p:List UInt8):Sm (MV.i .i64) (kn (aS n) (.s p)) (eV n p):=by
 unfold kn eV;refine bo (nV (bJ (aU ?_ ?_)))
 ·exact ao
 ·refine ar (SX n.Path p) λrA=>bH<|aQ ?_ ?_
  ·exact ao
  ·exact ao
theorem lT (x:List av)(target:List UInt8)(cmp:av->(List UInt8)->Option Int){M3:Nat}{DC:List MV}(GR:gv M3=false)(eF: ∀(u0:av)(u1:List UInt8),Sm (MV.i .i64) (cg M3 ([aS u0,.s u1]++DC)) (cmp u0 u1)):Sm (λr=> .bW [.i .i64 r.1,.b r.2]) (cE (.list (x.map aS)) (.s target) (.func M3 DC)) (bQ x target cmp):=by
 unfold cE bQ;refine aT (bJ (xS (aW (ar (dt (λr=>[.i .i64 r.1,.i .i64 r.2]) (λr=>(2,[.i .i64 r])) (rfl) λst=> ?_) λw=> ?_))))
 ·unfold cc;refine yv<|aU ?_ ?_
  ·refine b9<|cF (f:=aS) (rfl) λy=> ?_;refine bo (nV (xR (ck (by rw [GR];rfl) ?_)));refine ar (eF y target) λrA=>aG<|ar (f:=(λr=>(0,[.i .i64 r.1,.i .i64 r.2]))) ?_ λw1=> ?_
   ·refine aU ?_ ?_
    ·exact ao
    ·exact ao
   ·refine ck rfl (yv ao)
  ·exact ao
 ·refine ck rfl (aj (aG (aI ?_)));refine ar (f:=λr=>[.i .i64 r.1,.b r.2]) ?_ λw2=> ?_
  ·refine aU ?_ ?_
   ·refine cF (f:=aS) (rfl) λy1=> ?_;refine bo (nV (xR (ck (by rw [GR];rfl) ?_)));refine ar (eF y1 target) λaB=>aG ao
   ·exact ao
  ·refine Ey ao
theorem w9 (sA:ap)(p:List UInt8):Sm (λr=> .bW [.i .i64 r.1,.b r.2]) (jO (cG sA) (.s p)) (gE sA p):=by unfold jO gE;refine bo (aj (aT (aI (bJ (ar (lT sA.L p eV (M3:=245) (DC:=[]) rfl (λu2 u3=>Sm.at (fD _ _) (CM u2 u3))) λrA=> ?_)))));refine cz (Ey ao)
theorem ua (p:List UInt8):Sm MV.b (lQ (.s p)) (kc p):=by unfold lQ kc;refine bJ<|ar (qj p) λrA=>cz (aj (aT (aj (bH (aI ao)))))
theorem sC (sA:List UInt8)(c:Int):Sm (MV.i .i64) (ef (.s sA) (.i .u8 c)) (di sA c):=by
 unfold ef di;refine bJ (aG (ar (dt (λr=>[.i .i64 r]) (aaU (λr=>(2,[])) (λr=>(1,[.i .i64 r]))) (rfl) λst=> ?_) λw=> ?_))
 ·unfold dJ;refine aj (aG (aI (aU ?_ ?_)))
  ·refine b9<|aU ?_ ?_
   ·exact ao
   ·exact ao
  ·exact ao
 ·rcases w with p1|p2
  ·refine pZ rfl (aI ao)
  ·refine p0 rfl (ck rfl (aj (aG (aI ao))))
theorem vZ (sep:List UInt8):Sm (λr=> .bW [.i .u32 r.1,.i .u32 r.2]) (fb (.s sep)) (dL sep):=by
 unfold fb dL;refine bJ<|ar (dt (λr=>[.i .u32 r.1,.i .i64 r.2]) (λr=>(2,[.i .u32 r])) (rfl) λst=> ?_) λw=> ?_
 ·unfold eB;refine yv<|aU ?_ ?_
  ·refine b9 ao
  ·exact ao
 ·refine ck rfl (aj (aG (aI (ar (dt (λr=>[.i .u32 r.1,.i .u32 r.2.1,.i .i64 r.2.2]) (λr=>(4,[.i .u32 r])) (rfl) λdc=> ?_) λw1=> ?_))))
  ·unfold eC;refine Ku<|aU ?_ ?_
   ·refine ar (f:=(λr=>(0,[.i .u32 r]))) ?_ λw2=> ?_
    ·refine aQ ?_ ?_
     ·exact ao
     ·exact ao
    ·refine ck rfl (aj (aG (aI (b9 ao))))
   ·exact ao
  ·refine ck rfl (aj (aG (aI ao)))
theorem pj (a:List UInt8)(a1:List UInt8):Sm (MV.i .i64) (dj (.s a) (.s a1)) (cB a a1):=by
 unfold dj cB;refine bJ (bJ (ar (vZ a1) λrA=>cz (yv (ar (dt (λr=>[.i .u32 r.1,.i .i64 r.2]) (λr=>(2,[.i .u32 r])) (rfl) λst=> ?_) λw=> ?_))))
 ·unfold cX;refine yv<|aU ?_ ?_
  ·refine b9 ao
  ·exact ao
 ·refine ck rfl (aj (aG (aI ?_)));refine ar (f:=λr=>[.b r]) ?_ λw1=> ?_
  ·refine aU ?_ ?_
   ·refine b9 ao
   ·exact ao
  ·refine aj (bH (aI (aQ ?_ ?_)))
   ·exact ao
   ·refine ar (dt (λr=>[.i .u32 r.1,.i .i64 r.2]) (aaU (λr=>(4,[])) (λr=>(1,[.i .i64 r]))) (rfl) λdc=> ?_) λw2=> ?_
    ·unfold cY;refine yv<|aU ?_ ?_
     ·refine b9 (b9 ?_);refine ar (f:=λr=>[.b r]) ?_ λw3=> ?_
      ·refine aU ?_ ?_
       ·refine b9 ao
       ·exact ao
      ·refine aj (bH (aI (aQ ?_ ?_)))
       ·exact ao
       ·exact ao
     ·exact ao
    ·rcases w2 with p2|p3
     ·refine pZ rfl (aI ao)
     ·refine p0 rfl (ck rfl (aj (aG (aI ao))))
theorem EE (sA:List UInt8)(substr:List UInt8):Sm (MV.i .i64) (ll (.s sA) (.s substr)) (iT sA substr):=by
 unfold ll iT;refine bJ (bJ (aU ?_ ?_))
 ·exact ao
 ·refine aU ?_ ?_
  ·refine b9<|ar (sC sA ((substr.getD (bB 0) 0).toNat:Int)) λrA=>aG ao
  ·refine aU ?_ ?_
   ·refine aU ?_ ?_
    ·exact ao
    ·exact ao
   ·refine aU ?_ ?_
    ·exact ao
    ·refine ar (pj sA substr) λaB=>aG ao
theorem GS (p:List UInt8):Sm (λr=> .bW [.s r.1,.i .i64 r.2]) (re (.s p)) (oq p):=by
 unfold re oq;refine bJ<|ar (ua p) λrA=>bH<|aQ ?_ ?_
 ·exact ao
 ·refine aU ?_ ?_
  ·exact ao
  ·refine ar (EE p ([47]:List UInt8)) λaB=>aG (b9 ao)
theorem rC (sA:ap)(p:List UInt8):Sm (λr=> .bW [.i .i64 r.1,.i .i64 r.2]) (iG (cG sA) (.s p)) (fU sA p):=by
 unfold iG fU;refine bo (aj (aT (aI (bJ (ar (ua p) λrA=>bH (aQ ?_ ?_))))))
 ·exact ao
 ·refine ar (w9 sA p) λaB=>cz (Ey (aQ ?_ ?_))
  ·exact ao
  ·exact ao
theorem FJ (sA:ap)(p:List UInt8):Sm (λr=> .bW [aS r.1,.i .i64 r.2]) (sM (cG sA) (.s p)) (qd sA p):=by
 unfold sM qd;refine bo (aj (aT (aI (bJ (ar (rC sA p) λrA=>cz (yv (aQ ?_ ?_)))))))
 ·exact ao
 ·refine cF (f:=aS) (rfl) λy=>bo (nV ao)
theorem Kx (c:List UInt8)(c1:Bool)(c2:ap)(c3:List UInt8)(c4:Int):Sm (MV.i .i64) (pc (.rp [.s c]) (.rp [.b c1]) (.rp [.list (c2.L.map aS)]) (.rp [.s c3]) (.rp [.i .i64 c4])) (lL c c1 c2 c3 c4):=by
 unfold pc lL;refine M7 (aj (bJ (aI (M7 (aj (bH (aI (M7 (aj (aT (aI (M7 (aj (bJ (aI (M7 (aj (aG (aI (ar (ua c) λrA=>bH (aQ ?_ ?_)))))))))))))))))))))
 ·exact ao
 ·refine aQ ?_ ?_
  ·exact ao
  ·refine ar (GS c) λaB=>cz (aj (bJ (aj (aG (aI (ar (FJ c2 aB.1) λbK=>cz (aj (bo (nV (aj (aG (aI (aQ ?_ ?_)))))))))))))
   ·exact ao
   ·refine aQ ?_ ?_
    ·exact ao
    ·refine aU ?_ ?_
     ·exact ao
     ·refine aU ?_ ?_
      ·exact ao
      ·refine aW<|aU ?_ ?_
       ·exact ao
       ·exact ao
theorem OW (sA:ap)(p:List UInt8)(value:List UInt8)(owner:Int):Sm (λr=> .bW [cG r.1,.i .i64 r.2]) (sm (cG sA) (.s p) (.s value) (.i .i64 owner)) (oY sA p value owner):=by
 unfold sm oY;refine bo (aj (aT (aI (bJ (bJ (aG (ar (w9 sA p) λrA=>cz (Ey (ar (Kx p rA.2 sA value owner) λaB=>aG (aQ ?_ ?_))))))))))
 ·exact ao
 ·refine OI (HS rfl rfl)<|ar (rZ (size:=4) (f:=aS) (λ_=>rfl) sA.L) λbK=>mE<|ar (JA (f:=aS) bK rA.1 ([(⟨p,value,0,owner⟩:av)]:List av)) λqC=>mE ao
theorem nW (w:ah)(kind:Int):Sm (λr=> .dx ((λ_=> .bW []) r.1) (bw r.2)) (eX (bw w) (.i .i64 kind)) (dR w kind):=by
 unfold eX dR;refine aG (aA (ar (f:=(λr=>(0,(v1 r)))) ?_ λw1=> ?_))
 ·refine aU ?_ ?_
  ·refine aW (my (([(⟨kind,w.o.Path⟩:ay)]:List ay).length) (b9 (fO (by simp [bw,au,v1]))))
  ·exact ao
 ·refine ck rfl (aA ao)
theorem EF (w:ah):Sm (λr=> .dx ((λ_=> .bW []) r.1) (bw r.2)) (lm (bw w)) (iU w):=by
 unfold lm iU;refine aA ?_;refine ar (f:=λr=>[.b r]) ?_ λw1=> ?_
 ·refine aQ ?_ ?_
  ·refine ar (Wz w.r.c8 w.o.Session) λrA=>bH ao
  ·exact ao
 ·refine aj (bH (aI (aQ ?_ ?_)))
  ·exact ao
  ·refine ar (OW w.r.Shelf w.o.Path w.o.Value w.o.Session) λaB=>cz (aj (bo (aj (aT (aI (aj (aG (aI (ar (nW (⟨(⟨aB.1,w.r.c8,w.r.dp,w.r.Seen⟩:ax),w.o,(⟨w.x.Client,w.x.Seq,aB.2,w.x.Value,w.x.Version,w.x.Names⟩:ae),w.l⟩:ah) 1) λbK=> ?_)))))))));refine M6 (aA ao)
theorem Ky (w:ah):Sm (λr=> .dx ((λ_=> .bW []) r.1) (bw r.2)) (pe (bw w)) (lM w):=by unfold pe lM;refine aA<|ar (FJ w.r.Shelf w.o.Path) λrA=>cz (aj (bo (nV (aj (aG (aI ao))))))
theorem rk (sA:ap)(p:List UInt8)(version:Int):Sm (λr=> .bW [.i .i64 r.1,.i .i64 r.2]) (fG (cG sA) (.s p) (.i .i64 version)) (ec sA p version):=by
 unfold fG ec;refine bo (aj (aT (aI (bJ (aG (ar (rC sA p) λrA=>cz (yv ?_)))))));refine ar (f:=λr=>[.b r]) ?_ λw=> ?_
 ·refine aU ?_ ?_
  ·refine aQ ?_ ?_
   ·refine cF (f:=aS) (rfl) λy=>bo (nV ao)
   ·exact ao
  ·exact ao
 ·refine aj (bH (aI (aQ ?_ ?_)))
  ·exact ao
  ·exact ao
theorem WA (sA:ap)(p:List UInt8)(value:List UInt8)(version:Int):Sm (λr=> .bW [cG r.1,.i .i64 r.2]) (Bw (cG sA) (.s p) (.s value) (.i .i64 version)) (wN sA p value version):=by
 unfold Bw wN;refine bo (aj (aT (aI (bJ (bJ (aG (ar (rk sA p version) λrA=>cz (yv (aQ ?_ ?_)))))))))
 ·exact ao
 ·refine aU ?_ ?_
  ·exact ao
  ·refine cF (f:=aS) (rfl) λy=>bo (nV (aU ?_ ?_))
   ·exact ao
   ·refine ar (rZ (size:=4) (f:=aS) (λ_=>rfl) sA.L) λaB=>mE<|cF (f:=aS) (rfl) λy1=>bo (nV (cF (f:=aS) (by simp only [rY,No,AS,OF,aaS,aar,aas,aaT]) λy2=> ?_));refine bo (nV (cF (f:=aS) (by simp only [rY,No,AS,OF,aaS,aar,aas,aaT]) λy3=>bo (nV (fO (by simp [rP])))))
theorem Kz (w:ah):Sm (λr=> .dx ((λ_=> .bW []) r.1) (bw r.2)) (pf (bw w)) (lN w):=by
 unfold pf lN;refine aA<|ar (WA w.r.Shelf w.o.Path w.o.Value w.o.Version) λrA=>cz (aj (bo (aj (aT (aI (aj (aG (aI (ar (nW (⟨(⟨rA.1,w.r.c8,w.r.dp,w.r.Seen⟩:ax),w.o,(⟨w.x.Client,w.x.Seq,rA.2,w.x.Value,w.x.Version,w.x.Names⟩:ae),w.l⟩:ah) 2) λaB=> ?_)))))))));refine M6 (aA (ar (f:=(λr=>(0,(v1 r)))) ?_ λw1=> ?_))
 ·refine aU ?_ ?_
  ·refine ar (FJ aB.2.r.Shelf aB.2.o.Path) λbK=>cz (aj (bo (nV (aj (aG (aI ao))))))
  ·exact ao
 ·refine ck rfl (aA ao)
theorem CO (s1:List (List UInt8))(s2:List (List UInt8)):Sm MV.b (kp (.list (s1.map MV.s)) (.list (s2.map MV.s))) (gQ s1 s2):=by
 unfold kp gQ;refine aT (aT (aW (aW (aQ ?_ ?_))))
 ·exact ao
 ·refine aW<|ar (dt (λr=>[.i .i64 r]) (aaU (λr=>(2,[])) (λr=>(1,[.b r]))) (rfl) λst=> ?_) λw=> ?_
  ·unfold iV;refine aj (aG (aI (aU ?_ ?_)))
   ·refine cF (f:=MV.s) (rfl) λy=>bJ<|cF (f:=MV.s) (rfl) λy1=>bJ<|aQ ?_ ?_
    ·exact ao
    ·exact ao
   ·exact ao
  ·rcases w with p1|p2
   ·refine pZ rfl (aI ao)
   ·refine p0 rfl (ck rfl (aj (bH (aI ao))))
theorem KA (p:List UInt8)(q:List UInt8):Sm MV.b (tJ (.s p) (.s q)) (qe p q):=by
 unfold tJ qe;refine bJ (bJ (ar (qj p) λrA=>cz (aj (aT (aj (bH (aI (ar (qj q) λaB=>cz (aj (aT (aj (bH (aI ?_)))))))))))));refine ar (f:=λr=>[.b r]) ?_ λw=> ?_
 ·refine aQ ?_ ?_
  ·refine aQ ?_ ?_
   ·refine aW (aW (aU ?_ ?_))
    ·refine aW (aW (b9 (ar (by simpa using CO rA.1 (aaV (bB 0) (aaW (bB (rA.1.length:Int)) aB.1))) λbK=>bH ao)))
    ·exact ao
   ·exact ao
  ·exact ao
 ·refine aj (bH (aI ao))
theorem OX (sA:ap)(p:List UInt8)(version:Int):Sm (λr=> .bW [cG r.1,.i .i64 r.2]) (sn (cG sA) (.s p) (.i .i64 version)) (oZ sA p version):=by
 unfold sn oZ;refine bo (aj (aT (aI (bJ (aG (ar (rk sA p version) λrA=>cz (yv (aU ?_ ?_))))))))
 ·exact ao
 ·refine aQ ?_ ?_
  ·exact ao
  ·refine ar (f:=λr=>[.b r]) ?_ λw=> ?_
   ·refine aW<|aU ?_ ?_
    ·refine cF (f:=aS) (rfl) λy=>bo (nV (ar (KA p y.Path) λaB=>bH ao))
    ·exact ao
   ·refine aj (bH (aI (aQ ?_ ?_)))
    ·exact ao
    ·refine ar (rZ (size:=4) (f:=aS) (λ_=>rfl) sA.L) λbK=>mE<|ar (QC (f:=aS) bK rA.1 (AI .i64 (rA.1+1))) λqC=>mE ao
theorem EG (w:ah):Sm (λr=> .dx ((λ_=> .bW []) r.1) (bw r.2)) (ln (bw w)) (iW w):=by unfold ln iW;refine aA<|ar (OX w.r.Shelf w.o.Path w.o.Version) λrA=>cz (aj (bo (aj (aT (aI (aj (aG (aI (ar (nW (⟨(⟨rA.1,w.r.c8,w.r.dp,w.r.Seen⟩:ax),w.o,(⟨w.x.Client,w.x.Seq,rA.2,w.x.Value,w.x.Version,w.x.Names⟩:ae),w.l⟩:ah) 3) λaB=> ?_)))))))));refine M6 (aA ao)
theorem KB (p:List UInt8):Sm (λr=> .bW [.list (r.1.map MV.s),.i .i64 r.2]) (tK (.s p)) (qf p):=by
 unfold tK qf;refine bJ<|ar (qj p) λrA=>cz (aj (aT (aj (bH (aI (aQ ?_ ?_))))))
 ·exact ao
 ·exact ao
theorem SY (a:ap)(a1:List UInt8):Sm (λr=> .bW [.list (r.1.map MV.s),.i .i64 r.2]) (yi (cG a) (.s a1)) (th a a1):=by
 unfold yi th;refine bo (aj (aT (aI (bJ (ar (rC a a1) λrA=>cz (yv (aQ ?_ ?_)))))))
 ·exact ao
 ·refine ar (KB a1) λaB=> ?_;refine cz (sw (ck (xT (rfl:_=aaY aS a.L) λ_=>rfl) (aW (b9 (vM (n:=(aaV (bB (AI .i64 (rA.1+1))) (aaW (bB (a.L.length:Int)) a.L)).length) (by simp only [sh,AT,By,BY,IN,IT,aaC]) ?_)))));refine ar (dt (λr=>[.list (r.1.map MV.s),.i .i64 r.2]) (λr=>(2,[.list (r.map MV.s)])) (rfl) λst=> ?_) λw=> ?_
  ·unfold r9;refine sw<|aU ?_ ?_
   ·refine cF (f:=aS) (by simp only [rY,No,AS,OF,aaS,aar,aas,aaT]) λy=>bo (nV (ar (KA a1 y.Path) λbK=>bH (aQ ?_ ?_)))
    ·exact ao
    ·refine ar (KB y.Path) λqC=>cz (sw (aW (aW (ar (f:=(λr=>(0,[.list (r.map MV.s)]))) ?_ λw1=> ?_))))
     ·refine aU ?_ ?_
      ·refine aW<|cF (f:=MV.s) (rfl) λy1=>bJ (aW (my (([y1]:List (List UInt8)).length) (b9 (fO (by first|(simp;done)|simp only [aS,cG,GH,Ee,AS,OF,aaS,aar,aas,aaT])))))
      ·exact ao
     ·refine ck rfl (aj (aT (aI ao)))
   ·exact ao
  ·refine ck rfl (aj (aT (aI ao)))
theorem Ht (w:ah):Sm (λr=> .dx ((λ_=> .bW []) r.1) (bw r.2)) (nE (bw w)) (kE w):=by unfold nE kE;refine aA<|ar (SY w.r.Shelf w.o.Path) λrA=>cz (sw ao)
theorem SZ (b:aC)(id:Int)(span:Int):Sm (λr=> .bW [ez r.1,.i .i64 r.2]) (yl (ez b) (.i .i64 id) (.i .i64 span)) (tj b id span):=by
 unfold yl tj;refine bo (Hp (aG (aG (ar (nH b id) λrA=>cz (Ey ?_)))));refine ar (f:=λr=>[.b r]) ?_ λw=> ?_
 ·refine aU ?_ ?_
  ·exact ao
  ·refine aU ?_ ?_
   ·exact ao
   ·exact ao
 ·refine aj (bH (aI (aQ ?_ ?_)))
  ·exact ao
  ·refine aQ ?_ ?_
   ·exact ao
   ·refine aW<|aU ?_ ?_
    ·exact ao
    ·refine OI (HS rfl rfl)<|ar (rZ (size:=3) (f:=aZ) (λ_=>rfl) b.L) λaB=>mE<|ar (JA (f:=aZ) aB rA.1 ([(⟨id,span,AI .i64 (b.jH+span)⟩:ak)]:List ak)) λbK=> ?_;refine mE ao
theorem Hu (w:ah):Sm (λr=> .dx ((λ_=> .bW []) r.1) (bw r.2)) (nF (bw w)) (kF w):=by unfold nF kF;refine aA<|ar (SZ w.r.c8 w.o.Session w.o.Span) λrA=>cz (aj (bo (Hp (aj (aG (aI ao))))))
theorem QP (b:aC)(id:Int):Sm (λr=> .bW [ez r.1,.i .i64 r.2]) (vi (ez b) (.i .i64 id)) (qZ b id):=by
 unfold vi qZ;refine bo (Hp (aG (ar (nH b id) λrA=>cz (Ey (aQ ?_ ?_)))))
 ·exact ao
 ·refine ar (rZ (size:=3) (f:=aZ) (λ_=>rfl) b.L) λaB=>mE<|cF (f:=aZ) (rfl) λy=>bo (Ku (cF (f:=aZ) (rfl) λy1=>bo (Ku (fO (by simp)))))
theorem FK (w:ah):Sm (λr=> .dx ((λ_=> .bW []) r.1) (bw r.2)) (mr (bw w)) (jK w):=by unfold mr jK;refine aA<|ar (QP w.r.c8 w.o.Session) λrA=>cz (aj (bo (Hp (aj (aG (aI ao))))))
theorem QQ (b:aC)(id:Int):Sm (λr=> .bW [ez r.1,.i .i64 r.2]) (vj (ez b) (.i .i64 id)) (q0 b id):=by
 unfold vj q0;refine bo (Hp (aG (ar (nH b id) λrA=>cz (Ey (aQ ?_ ?_)))))
 ·exact ao
 ·refine ar (rZ (size:=3) (f:=aZ) (λ_=>rfl) b.L) λaB=>mE<|ar (QC (f:=aZ) aB rA.1 (AI .i64 (rA.1+1))) λbK=>mE ao
theorem S0 (sA:ap)(owner:Int):Sm (λr=> .bW [cG r.1,.list (r.2.map MV.s)]) (ym (cG sA) (.i .i64 owner)) (tk sA owner):=by
 unfold ym tk;refine bo (aj (aT (aI (aG (aW (ar (dt (λr=>[.list (r.1.map MV.s),.list (r.2.1.map aS),.i .i64 r.2.2]) (λr=>(2,[.list (r.1.map MV.s),.list (r.2.map aS)])) (rfl) λst=> ?_) λw=> ?_))))))
 ·unfold sa;refine aj (aT (sw (aU ?_ ?_)))
  ·refine cF (f:=aS) (rfl) λy=>bo (nV ?_);refine ar (f:=λr=>[.b r]) ?_ λw1=> ?_
   ·refine aU ?_ ?_
    ·exact ao
    ·exact ao
   ·refine aj (bH (aI (aQ ?_ ?_)))
    ·refine aW (my (([y.Path]:List (List UInt8)).length) (b9 (fO (by simp [rP]))))
    ·refine aW (my (([y]:List av).length) (b9 (fO (by simp [rP]))))
  ·exact ao
 ·refine ck rfl (aj (aT (aj (aT (aI ao)))))
theorem zh (w:ah)(id:Int):Sm (λr=> .dx ((λ_=> .bW []) r.1) (bw r.2)) (kJ (bw w) (.i .i64 id)) (iF w id):=by
 unfold kJ iF;refine aG (aA (ar (S0 w.r.Shelf id) λrA=>cz (aj (bo (aj (aT (aI (aj (aT (aI (aW (ar (dt (λr=>(v0 r)) (λr=>(2,(v1 r))) (rfl) λst=> ?_) λw1=> ?_))))))))))))
 ·unfold lc;refine aj (aG (aA (aU ?_ ?_)))
  ·refine cF (f:=MV.s) (rfl) λy=>bJ (aW (my (([(⟨3,y⟩:ay)]:List ay).length) (b9 (fO (by simp [bw,au,v0,v1])))))
  ·exact ao
 ·refine ck rfl (aA ao)
theorem FL (w:ah):Sm (λr=> .dx ((λ_=> .bW []) r.1) (bw r.2)) (mu (bw w)) (jL w):=by
 unfold mu jL;refine aA<|ar (QQ w.r.c8 w.o.Session) λrA=>cz (aj (bo (Hp (aj (aG (aI (ar (f:=(λr=>(0,(v1 r)))) ?_ λw1=> ?_)))))))
 ·refine aU ?_ ?_
  ·refine ar (zh (⟨(⟨w.r.Shelf,rA.1,w.r.dp,w.r.Seen⟩:ax),w.o,(⟨w.x.Client,w.x.Seq,rA.2,w.x.Value,w.x.Version,w.x.Names⟩:ae),w.l⟩:ah) w.o.Session) λaB=>M6 (aA ao)
  ·exact ao
 ·refine ck rfl (aA ao)
theorem S1 (b:aC)(now:Int):Sm (λr=> .bW [ez r.1,.list (r.2.1.map (MV.i .i64)),.i .i64 r.2.2]) (yn (ez b) (.i .i64 now)) (tl b now):=by
 unfold yn tl;refine bo (Hp (aG (aU ?_ ?_)))
 ·exact ao
 ·refine aU ?_ ?_
  ·exact ao
  ·refine aW<|ar (dt (λr=>[.list (r.1.map (MV.i .i64)),.i .i64 r.2.1,.list (r.2.2.1.map aZ),.i .i64 r.2.2.2]) (λr=>(3,[.list (r.1.map (MV.i .i64)),.i .i64 r.2.1,.list (r.2.2.map aZ)])) (rfl) λst=> ?_) λw=> ?_
   ·unfold sb;refine aj (aT (aj (aG (sw (aU ?_ ?_)))))
    ·refine cF (f:=aZ) (rfl) λy=>bo (Ku (aU ?_ ?_))
     ·refine aW (my (([y.Id]:List Int).length) (b9 (fO (by simp))))
     ·refine aW (my (([y]:List ak).length) (b9 (fO (by simp))))
    ·exact ao
   ·refine ck rfl (aj (aT (Hp ao)))
theorem Hv (w:ah):Sm (λr=> .dx ((λ_=> .bW []) r.1) (bw r.2)) (nG (bw w)) (kG w):=by
 unfold nG kG;refine aA<|ar (S1 w.r.c8 w.o.Span) λrA=>cz (aj (bo (Hp (sw (aQ ?_ ?_)))))
 ·exact ao
 ·refine aW<|ar (dt (λr=>(v0 r)) (λr=>(2,(v1 r))) (rfl) λst=> ?_) λw1=> ?_
  ·unfold lf;refine aj (aG (aA (aU ?_ ?_)))
   ·refine cF (f:=(MV.i .i64)) (rfl) λy=>aG<|ar (zh (⟨(⟨(⟨st.2.1⟩:ap),(⟨st.2.2.1,st.2.2.2.1⟩:aC),(⟨st.2.2.2.2.1⟩:aX),st.2.2.2.2.2.1⟩:ax),(⟨st.2.2.2.2.2.2.1,st.2.2.2.2.2.2.2.1,st.2.2.2.2.2.2.2.2.1,st.2.2.2.2.2.2.2.2.2.1,st.2.2.2.2.2.2.2.2.2.2.1,st.2.2.2.2.2.2.2.2.2.2.2.1,st.2.2.2.2.2.2.2.2.2.2.2.2.1,st.2.2.2.2.2.2.2.2.2.2.2.2.2.1⟩:ab),(⟨st.2.2.2.2.2.2.2.2.2.2.2.2.2.2.1,st.2.2.2.2.2.2.2.2.2.2.2.2.2.2.2.1,st.2.2.2.2.2.2.2.2.2.2.2.2.2.2.2.2.1,st.2.2.2.2.2.2.2.2.2.2.2.2.2.2.2.2.2.1,st.2.2.2.2.2.2.2.2.2.2.2.2.2.2.2.2.2.2.1,st.2.2.2.2.2.2.2.2.2.2.2.2.2.2.2.2.2.2.2.1⟩:ae),st.2.2.2.2.2.2.2.2.2.2.2.2.2.2.2.2.2.2.2.2⟩:ah) y) λaB=> ?_;refine M6 (aA ao)
   ·exact ao
  ·refine ck rfl (aA ao)
theorem yy (sA:List aq)(v:aq):Sm (MV.i .i64) (gu (.list (sA.map bp)) (bp v)) (eD sA v):=by
 unfold gu eD;refine aT (bo (Nr (aW (ar (dt (λr=>[.i .i64 r]) (aaU (λr=>(2,[])) (λr=>(1,[.i .i64 r]))) (rfl) λst=> ?_) λw=> ?_))))
 ·unfold e9;refine aj (aG (aI (aU ?_ ?_)))
  ·refine cF (f:=bp) (rfl) λy=>bo (Nr (aQ ?_ ?_))
   ·exact ao
   ·exact ao
  ·exact ao
 ·rcases w with p1|p2
  ·refine pZ rfl (aI ao)
  ·refine p0 rfl (ck rfl (aj (aG (aI ao))))
theorem uC (sA:List aq)(v:aq):Sm MV.b (eP (.list (sA.map bp)) (bp v)) (dE sA v):=by unfold eP dE;refine aT (bo (Nr (ar (yy sA v) λrA=>aG ao)))
theorem WB (t:aX)(w:aq):Sm (λr=> .bW [qB r.1,.i .i64 r.2]) (Bx (qB t) (bp w)) (wO t w):=by
 unfold Bx wO;refine bo (aj (aT (aI (bo (Nr (ar (ua w.Path) λrA=>bH (aQ ?_ ?_)))))))
 ·exact ao
 ·refine aU ?_ ?_
  ·exact ao
  ·refine ar (uC t.L w) λaB=>bH<|aQ ?_ ?_
   ·exact ao
   ·refine aW<|aU ?_ ?_
    ·exact ao
    ·refine OI (HS rfl rfl)<|ar (rZ (size:=3) (f:=bp) (λ_=>rfl) t.L) λbK=>mE (aW (my (([w]:List aq).length) (b9 (fO (by simp)))))
theorem FM (w:ah):Sm (λr=> .dx ((λ_=> .bW []) r.1) (bw r.2)) (mw (bw w)) (jM w):=by unfold mw jM;refine aA<|ar (WB w.r.dp (⟨w.o.Path,w.o.Client,decide (w.o.Kind=11)⟩:aq)) λrA=>cz (aj (bo (aj (aT (aI (aj (aG (aI ao))))))))
theorem S2:Sm (V2 (λx:Nat=>MV.func x [])) (yo) (tp):=by unfold yo tp;exact ao
theorem LR (c:ay)(w:aq):Sm MV.b (qL (fj c) (bp w)) (ni c w):=by
 unfold qL ni;refine bo (aj (aG (aj (bJ (aI (bo (Nr ?_)))))));refine ar (f:=λr=>[.b r]) ?_ λw1=> ?_
 ·refine aU ?_ ?_
  ·exact ao
  ·refine aU ?_ ?_
   ·exact ao
   ·refine ar (ua c.Path) λrA=>bH ao
 ·refine aj (bH (aI (aQ ?_ ?_)))
  ·exact ao
  ·refine aQ ?_ ?_
   ·exact ao
   ·refine ar (GS c.Path) λaB=>cz (aj (bJ (aj (aG (aI ?_)))));refine ar (f:=λr=>[.b r]) ?_ λw2=> ?_
    ·refine aU ?_ ?_
     ·refine aQ ?_ ?_
      ·exact ao
      ·exact ao
     ·exact ao
    ·refine aj (bH (aI ao))
theorem OY (w:aq)(c:ay)(c1:List aO):Sm (λr=> .dx (MV.b r.1) [.list (r.2.map da)]) (pi (bp w) (.rp [.i .i64 c.Kind,.s c.Path]) [.list (c1.map da)]) (o4 w c c1):=by
 unfold pi o4;refine bo (Nr (M7 (aj (aG (aj (bJ (aI (aj (aT (aI (ar (LR c w) λrA=>bH (ar (f:=(λr=>(0,[.list (r.map da)]))) ?_ λw1=> ?_))))))))))))
 ·refine aQ ?_ ?_
  ·refine aW (my (([(⟨w,c⟩:aO)]:List aO).length) (b9 (fO (by simp))))
  ·exact ao
 ·refine ck rfl (aj (aT (aI ao)))
theorem S3 (t:aX)(lA:List ay):Sm (λr=> .bW [qB r.1,.list (r.2.map da)]) (yt (qB t) (.list (lA.map fj))) (tq t lA):=by
 unfold yt tq;refine bo (aj (aT (aI (aT (ar (rZ (size:=3) (f:=bp) (λ_=>rfl) t.L) λrA=>mE (aW (ar (dt (λr=>[.list (r.1.map bp),.list (r.2.1.map da),.i .i64 r.2.2]) (λr=>(2,[.list (r.1.map bp),.list (r.2.map da)])) (rfl) λst=> ?_) λw=> ?_)))))))
 ·unfold sd;refine aj (aT (sw (aU ?_ ?_)))
  ·refine cF (f:=fj) (rfl) λy=>bo (aj (aG (aj (bJ (aI (ck (Z6 (rfl:_=aaY bp st.1) λ_=>rfl) (ar (Z7 (f:=bp) (lv:=(λsA=>[.list (sA.map da)])) (bR:=[.rp [.i .i64 y.Kind,.s y.Path]]) (λu sA=>Sm.at (yr (bp u) (.rp [.i .i64 y.Kind,.s y.Path]) [.list (sA.map da)]) (OY u y sA)) st.2.1 st.1) λaB=> ?_)))))));refine aj (aT (aI ao))
  ·exact ao
 ·refine ck rfl (aj (aT (aj (aT (aI ao)))))
theorem LS (k:Nat)(x0:ah):Sm (λr=> .dx ((λ_=> .bW []) r.1) [.list (r.2.r.Shelf.L.map aS),.i .i64 r.2.r.c8.jH,.list (r.2.r.c8.L.map aZ),.list (r.2.r.dp.L.map bp),.list (r.2.r.Seen.map bq),.i .i64 r.2.o.Client,.i .i64 r.2.o.Seq,.i .i64 r.2.o.Kind,.s r.2.o.Path,.s r.2.o.Value,.i .i64 r.2.o.Version,.i .i64 r.2.o.Session,.i .i64 r.2.o.Span,.i .i64 r.2.x.Client,.i .i64 r.2.x.Seq,.i .i64 r.2.x.E,.s r.2.x.Value,.i .i64 r.2.x.Version,.list (r.2.x.Names.map MV.s),.list (r.2.l.map fj)]) (K0 [105,106,107,108,109,110,111,112,113,114,115] k λk=>db k [.cell (.func 0 [.list (x0.r.Shelf.L.map aS),.i .i64 x0.r.c8.jH,.list (x0.r.c8.L.map aZ),.list (x0.r.dp.L.map bp),.list (x0.r.Seen.map bq),.i .i64 x0.o.Client,.i .i64 x0.o.Seq,.i .i64 x0.o.Kind,.s x0.o.Path,.s x0.o.Value,.i .i64 x0.o.Version,.i .i64 x0.o.Session,.i .i64 x0.o.Span,.i .i64 x0.x.Client,.i .i64 x0.x.Seq,.i .i64 x0.x.E,.s x0.x.Value,.i .i64 x0.x.Version,.list (x0.x.Names.map MV.s),.list (x0.l.map fj)])]) (nj k x0):=by unfold nj;refine qA (λ_=>Sm.at (rj _) (CL x0))<|qA (λ_=>Sm.at (rz _) (EF x0))<|qA (λ_=>Sm.at (uy _) (Ky x0))<|qA (λ_=>Sm.at (uA _) (Kz x0)) ?_;refine qA (λ_=>Sm.at (rB _) (EG x0))<|qA (λ_=>Sm.at (tU _) (Ht x0))<|qA (λ_=>Sm.at (tV _) (Hu x0))<|qA (λ_=>Sm.at (sr _) (FK x0)) ?_;refine qA (λ_=>Sm.at (su _) (FL x0))<|qA (λ_=>Sm.at (tW _) (Hv x0))<|acI (λ_=>Sm.at (sv _) (FM x0))
theorem QR (a:ax)(a1:ab):Sm (λr=> .bW [eo r.1,bq r.2.1,.list (r.2.2.map da)]) (vk (eo a) (a7 a1)) (q8 a a1):=by
 unfold vk q8;refine bo (qN (bo (dS (ar (FI a a1) λrA=>cz (aj (bo (nt (aj (bH (aI (aQ ?_ ?_)))))))))))
 ·exact ao
 ·refine ar (S2) λaB=>aT<|cF (f:=(λx:Nat=>MV.func x [])) (rfl) λy=>xS (xR (aI (ar (LS y (⟨a,a1,rA.1,([]:List ay)⟩:ah)) λbK=>M6 (aA (ar (S3 bK.2.r.dp bK.2.l) λqC=> ?_)))));refine cz (aj (bo (aj (aT (aI (aj (aT (aI (ar (rZ (size:=6) (f:=bq) (λ_=>rfl) a.Seen) λHT=>mE (ar (wZ a a1.Client) λHU=>cz (Ey (ar (f:=(λr=>(0,(v1 r)))) ?_ λw=> ?_))))))))))))
  ·refine aQ ?_ ?_
   ·refine cF (f:=bq) (rfl) λy1=>bo (nt (fO (by simp [ke,cv,mR,au,v1])))
   ·refine ar (JA (f:=bq) HT HU.1 ([bK.2.x]:List ae)) λzL=>mE ao
  ·refine ck rfl (aA (OI (HS rfl rfl) ao))
theorem S4 (rA:ax)(lA:List ab):Sm (λr=> .bW [eo r.1,.list (r.2.1.map bq),.list (r.2.2.map da)]) (yu (eo rA) (.list (lA.map a7))) (tu rA lA):=by
 unfold yu tu;refine bo (qN (aT (aW (ar (dt (λr=>[.list (r.1.map aS),.i .i64 r.2.1,.list (r.2.2.1.map aZ),.list (r.2.2.2.1.map bp),.list (r.2.2.2.2.1.map bq),.list (r.2.2.2.2.2.1.map bq),.list (r.2.2.2.2.2.2.1.map da),.i .i64 r.2.2.2.2.2.2.2]) (λr=>(2,[.list (r.1.map aS),.i .i64 r.2.1,.list (r.2.2.1.map aZ),.list (r.2.2.2.1.map bp),.list (r.2.2.2.2.1.map bq),.list (r.2.2.2.2.2.1.map bq),.list (r.2.2.2.2.2.2.map da)])) (rfl) λst=> ?_) λw=> ?_))))
 ·unfold se;refine aj (aT (aj (aG (aj (aT (aj (aT (aj (aT (aj (aT (sw (aU ?_ ?_)))))))))))))
  ·refine cF (f:=a7) (rfl) λy=>bo (dS (ar (QR (⟨(⟨st.1⟩:ap),(⟨st.2.1,st.2.2.1⟩:aC),(⟨st.2.2.2.1⟩:aX),st.2.2.2.2.1⟩:ax) y) λzL=>cz (aj (bo (qN (aj (bo (nt (aj (aT (aI (aW (my (([zL.2.1]:List ae).length) ?_)))))))))))));refine b9 (ck (xT (rfl:_=aaY da zL.2.2) λ_=>rfl) (aW (aW (b9 (fO (by simp [ke,cv,mR]))))))
  ·exact ao
 ·refine ck rfl (aj (aT (aj (aG (aj (aT (aj (aT (aj (aT (aj (aT (aj (aT (aI ao)))))))))))))))
theorem QS (rA:ax)(sA:List UInt8):Sm (λr=> .bW [eo r.1,.list (r.2.1.map bq),.i .i64 r.2.2]) (vl (eo rA) (.s sA)) (q9 rA sA):=by
 unfold vl q9;refine bo (qN (bJ (ar (sB sA) λaB=>cz (sw (aQ ?_ ?_)))))
 ·exact ao
 ·refine ar (S4 rA aB.1) λbK=>cz (aj (bo (qN (aj (aT (aj (aT (aI ao))))))))
theorem Nt:Sm MV.b (wY) (qg):=by
 unfold wY qg;refine ar (yw ([(⟨1,1,1,([47,97]:List UInt8),([]:List UInt8),0,0,0⟩:ab)]:List ab)) λrA=>cz (aj (bJ (aj (aG (aI (ar (Ww) λaB=>bo (qN (ar (QS aB rA.1) λbK=> ?_))))))));refine cz (aj (bo (qN (sw (ar (sB ([]:List UInt8)) λqC=>cz (sw ?_))))));refine ar (f:=λr=>[.b r]) ?_ λw=> ?_
 ·refine aU ?_ ?_
  ·refine aU ?_ ?_
   ·refine aW<|aU ?_ ?_
    ·refine aW<|aU ?_ ?_
     ·exact ao
     ·exact ao
    ·exact ao
   ·exact ao
  ·exact ao
 ·refine aj (bH (aI ao))
theorem aaF (a:List dK)(b:List dK):Sm MV.b (Eu (.list (a.map lI)) (.list (b.map lI))) (Av a b):=by
 unfold Eu Av;refine aT (aT (aW (aW (aQ ?_ ?_))))
 ·exact ao
 ·refine ar (dt (λr=>[.i .i64 r]) (aaU (λr=>(2,[])) (λr=>(1,[.b r]))) (rfl) λst=> ?_) λw=> ?_
  ·unfold Cz;refine aj (aG (aI (aW (aU ?_ ?_))))
   ·refine cF (f:=lI) (rfl) λy=>bo (dS (cF (f:=lI) (rfl) λy1=>bo (dS (aQ ?_ ?_))))
    ·exact ao
    ·exact ao
   ·exact ao
  ·rcases w with p1|p2
   ·refine pZ rfl (aI ao)
   ·refine p0 rfl (ck rfl (aj (bH (aI ao))))
theorem UP (lA:List ab):Sm (V2 lI) (Ew (.list (lA.map a7))) (Bo lA):=by
 unfold Ew Bo;refine aT<|ar (dt (λr=>[.list (r.1.map lI),.i .i64 r.2]) (λr=>(2,[.list (r.map lI)])) (rfl) λst=> ?_) λw=> ?_
 ·unfold Bn;refine sw (aW (aU ?_ ?_))
  ·refine cF (f:=a7) (rfl) λy=>bo (dS (aW (my (([(⟨y.Client,y.Seq,y.Kind,y.Path,y.Value,y.Version,y.Session,y.Span⟩:dK)]:List dK).length) (b9 (fO (by simp [cv]))))))
  ·exact ao
 ·refine ck rfl (aj (aT (aI ao)))
theorem LU (a:List ab)(a1:List UInt8):Sm MV.b (vY (.list (a.map a7)) (.s a1)) (qD a a1):=by
 unfold vY qD;refine aT (bJ ?_);refine ar (f:=λr=>[.b r]) ?_ λw=> ?_
 ·refine ar (Wt a) λrA=>bH<|aQ ?_ ?_
  ·exact ao
  ·exact ao
 ·refine aj (bH (aI (aQ ?_ ?_)))
  ·refine ar (Nt) λaB=>bH ao
  ·refine ar (yw a) λbK=>cz (aj (bJ (aj (aG (aI (ar (sB bK.1) λqC=>cz (sw ?_)))))));refine ar (f:=λr=>[.b r]) ?_ λw1=> ?_
   ·refine aU ?_ ?_
    ·refine aQ ?_ ?_
     ·exact ao
     ·refine ar (UP qC.1) λHT=>aT<|ar (UP a) λHU=>aT<|ar (aaF HT HU) λzL=>bH<|aQ ?_ ?_
      ·exact ao
      ·refine aQ ?_ ?_
       ·exact ao
       ·exact ao
    ·refine aQ ?_ ?_
     ·exact ao
     ·exact ao
   ·refine aj (bH (aI (aQ ?_ ?_)))
    ·exact ao
    ·refine ar (sB a1) λUC=>cz (sw (ar (yw UC.1) λV8=>cz (aj (bJ (aj (aG (aI ?_)))))));refine ar (f:=λr=>[.b r]) ?_ λw2=> ?_
     ·refine ar (Nt) λrA9=>bH<|aQ ?_ ?_
      ·refine aQ ?_ ?_
       ·exact ao
       ·refine aU ?_ ?_
        ·exact ao
        ·exact ao
      ·exact ao
     ·refine aj (bH (aI ao))
end Dn.S
