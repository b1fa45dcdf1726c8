import Derived.Test.YtmdlghpieagfhaaGreatDnYD
/- Both agree. Conditions: none. -/
set_option linter.unusedVariables false
set_option linter.unusedSimpArgs false
open Int renaming toNat→cV
open List renaming length_map→sh,length_cons→AI,length_append→AT,length_nil→BY,map_append→IT,length_take→OF,length_drop→aau,length_set→aaJ,map_cons→aaP,map_take→aaU,map_drop→abz,map_replicate→abB,map_nil→abC,map_set→abE,drop→abF,take→abG,map→acE,replicate→acT
open Go.IntKind renaming wrap→No,bits→acN
open Sum renaming elim→aaK
open Nat renaming reduceAdd→abJ
open Option renaming map_some→acv
open Go Dn
set_option maxRecDepth 100000
namespace Dn.S
@[reducible] def v0 (r : Int × Int × Int × Int × Bool × Int × (List UInt8) × (List aa) × (List aa) × Int × Int × (List aa) × (List aa) × (List aa) × Bool × (List UInt8) × (List ab) × Int × (List ai)) : List MV := [.i .i64 r.1, .i .i64 r.2.1, .i .i64 r.2.2.1, .i .i64 r.2.2.2.1, .b r.2.2.2.2.1, .i .i64 r.2.2.2.2.2.1, .s r.2.2.2.2.2.2.1, .list (r.2.2.2.2.2.2.2.1.map ak), .list (r.2.2.2.2.2.2.2.2.1.map ak), .i .i64 r.2.2.2.2.2.2.2.2.2.1, .i .i64 r.2.2.2.2.2.2.2.2.2.2.1, .list (r.2.2.2.2.2.2.2.2.2.2.2.1.map ak), .list (r.2.2.2.2.2.2.2.2.2.2.2.2.1.map ak), .list (r.2.2.2.2.2.2.2.2.2.2.2.2.2.1.map ak), .b r.2.2.2.2.2.2.2.2.2.2.2.2.2.2.1, .s r.2.2.2.2.2.2.2.2.2.2.2.2.2.2.2.1, .list (r.2.2.2.2.2.2.2.2.2.2.2.2.2.2.2.2.1.map aG), .i .i64 r.2.2.2.2.2.2.2.2.2.2.2.2.2.2.2.2.2.1, .list (r.2.2.2.2.2.2.2.2.2.2.2.2.2.2.2.2.2.2.map aV)]
@[reducible] def v1 (r : Int × Int × Int × Int × Bool × Int × (List UInt8) × (List aa) × (List aa) × Int × Int × (List aa) × (List aa) × (List aa) × Bool × (List UInt8) × (List ab) × Int) : List MV := [.i .i64 r.1, .i .i64 r.2.1, .i .i64 r.2.2.1, .i .i64 r.2.2.2.1, .b r.2.2.2.2.1, .i .i64 r.2.2.2.2.2.1, .s r.2.2.2.2.2.2.1, .list (r.2.2.2.2.2.2.2.1.map ak), .list (r.2.2.2.2.2.2.2.2.1.map ak), .i .i64 r.2.2.2.2.2.2.2.2.2.1, .i .i64 r.2.2.2.2.2.2.2.2.2.2.1, .list (r.2.2.2.2.2.2.2.2.2.2.2.1.map ak), .list (r.2.2.2.2.2.2.2.2.2.2.2.2.1.map ak), .list (r.2.2.2.2.2.2.2.2.2.2.2.2.2.1.map ak), .b r.2.2.2.2.2.2.2.2.2.2.2.2.2.2.1, .s r.2.2.2.2.2.2.2.2.2.2.2.2.2.2.2.1, .list (r.2.2.2.2.2.2.2.2.2.2.2.2.2.2.2.2.1.map aG), .i .i64 r.2.2.2.2.2.2.2.2.2.2.2.2.2.2.2.2.2]
@[reducible] def v2 (r : Int × Int × Int × (List UInt8) × (List ab) × Int × Int × (List UInt8) × (List aa) × Int × Int × Bool × Int × (List UInt8) × (List aa)) : List MV := [.i .i64 r.1, .i .i64 r.2.1, .i .i64 r.2.2.1, .s r.2.2.2.1, .list (r.2.2.2.2.1.map aG), .i .i64 r.2.2.2.2.2.1, .i .i64 r.2.2.2.2.2.2.1, .s r.2.2.2.2.2.2.2.1, .list (r.2.2.2.2.2.2.2.2.1.map ak), .i .i64 r.2.2.2.2.2.2.2.2.2.1, .i .i64 r.2.2.2.2.2.2.2.2.2.2.1, .b r.2.2.2.2.2.2.2.2.2.2.2.1, .i .i64 r.2.2.2.2.2.2.2.2.2.2.2.2.1, .s r.2.2.2.2.2.2.2.2.2.2.2.2.2.1, .list (r.2.2.2.2.2.2.2.2.2.2.2.2.2.2.map ak)]
@[reducible] def v3 (r : Int × Int × (List Bool) × (List (List UInt8)) × (List ao) × (List ai) × Int) : List MV := [.i .i64 r.1, .i .i64 r.2.1, .list (r.2.2.1.map MV.b), .list (r.2.2.2.1.map MV.s), .list (r.2.2.2.2.1.map bj), .list (r.2.2.2.2.2.1.map aV), .i .i64 r.2.2.2.2.2.2]
@[reducible] def v4 (r : Int × Int × Int × (List Bool) × (List (List UInt8)) × (List ao) × (List ai)) : List MV := [.i .i64 r.1, .i .i64 r.2.1, .i .i64 r.2.2.1, .list (r.2.2.2.1.map MV.b), .list (r.2.2.2.2.1.map MV.s), .list (r.2.2.2.2.2.1.map bj), .list (r.2.2.2.2.2.2.map aV)]
@[reducible] def v5 (r : Int × Int × (List aa) × (List aa) × (List aa) × Bool × (List UInt8)) : List MV := [.i .i64 r.1, .i .i64 r.2.1, .list (r.2.2.1.map ak), .list (r.2.2.2.1.map ak), .list (r.2.2.2.2.1.map ak), .b r.2.2.2.2.2.1, .s r.2.2.2.2.2.2]
@[reducible] def v6 (r : Int × Int × (List Bool) × (List (List UInt8)) × (List ao) × (List ai)) : List MV := [.i .i64 r.1, .i .i64 r.2.1, .list (r.2.2.1.map MV.b), .list (r.2.2.2.1.map MV.s), .list (r.2.2.2.2.1.map bj), .list (r.2.2.2.2.2.map aV)]
@[reducible] def v7 (r : Int × (List UInt8) × Bool) : List MV := [.i .i64 r.1, .s r.2.1, .b r.2.2]
theorem rJ {A B:Type}{g:B->A}{T:Option B}{l:List MV}{K:Nat->Option A}(n:Nat)(h:Sm g (K n) T)(e:l.length=n:=by simp only [sh,AI,BY]):Sm g (cy l K) T:=ym e h
theorem bn {A B C:Type}{g:B->A}{T:Option B}{f:C->MV}{M:List C}{K:Nat->Option A}(h:Sm g (K M.length) T):Sm g (cy (M.map f) K) T:=ym (sh ..) h
theorem aq {A B:Type}{g:B->A}{d:A}{a:B}(e:d=g a:=by exact rfl):Sm g (some d) (some a):=jM e
theorem mz {A B:Type}{g:B->A}{T:Option B}{k0 k1:IntKind}{x0:Int}{x1:Int}{K:Int->Int->Option A}(h:Sm g (K x0 x1) T):Sm g (oII k0 k1 [.i k0 x0,.i k1 x1] K) T:=al (ax (al (ax (aD h))))
theorem ft {A B:Type}{g:B->A}{T:Option B}{k0 k1 k3:IntKind}{x0:Int}{x1:Int}{x2:Bool}{x3:Int}{x4:List UInt8}{x5:List MV}{K:Int->Int->Bool->Int->List UInt8->List MV->Option A}(h:Sm g (K x0 x1 x2 x3 x4 x5) T):Sm g (VL k0 k1 k3 [.i k0 x0,.i k1 x1,.b x2,.i k3 x3,.s x4,.list x5] K) T:=al (ax (al (ax (al (aM (al (ax (al (eF (al (bg (aD h))))))))))))
theorem fW {A B:Type}{g:B->A}{T:Option B}{k0 k1 k2 k3 k5:IntKind}{x0:Int}{x1:Int}{x2:Int}{x3:Int}{x4:Bool}{x5:Int}{x6:List UInt8}{x7:List MV}{x8:List MV}{K:Int->Int->Int->Int->Bool->Int->List UInt8->List MV->List MV->Option A}(h:Sm g (K x0 x1 x2 x3 x4 x5 x6 x7 x8) T):Sm g (Jw k0 k1 k2 k3 k5 [.i k0 x0,.i k1 x1,.i k2 x2,.i k3 x3,.b x4,.i k5 x5,.s x6,.list x7,.list x8] K) T:=al (ax (al (ax (al (ax (al (ax (al (aM (al (ax (al (eF (al (bg (al (bg (aD h))))))))))))))))))
theorem aJ {A B:Type}{g:B->A}{T:Option B}{k0 k1 k2 k3 k5 k9 VM k17:IntKind}{x0:Int}{x1:Int}{x2:Int}{x3:Int}{x4:Bool}{x5:Int}{x6:List UInt8}{x7:List MV}{x8:List MV}{x9:Int}{qE:Int}{sB:List MV}{sQ:List MV}{sG:List MV}{uY:Bool}{yt:List UInt8}{BI:List MV}{xi:Int}{K:Int->Int->Int->Int->Bool->Int->List UInt8->List MV->List MV->Int->Int->List MV->List MV->List MV->Bool->List UInt8->List MV->Int->Option A}(h:Sm g (K x0 x1 x2 x3 x4 x5 x6 x7 x8 x9 qE sB sQ sG uY yt BI xi) T):Sm g (fR k0 k1 k2 k3 k5 k9 VM k17 [.i k0 x0,.i k1 x1,.i k2 x2,.i k3 x3,.b x4,.i k5 x5,.s x6,.list x7,.list x8,.i k9 x9,.i VM qE,.list sB,.list sQ,.list sG,.b uY,.s yt,.list BI,.i k17 xi] K) T:=al (ax (al (ax (al (ax (al (ax (al (aM (al (ax (al (eF (al (bg (al (bg (al (ax (al (ax (al (bg (al (bg (al (bg (al (aM (al (eF (al (bg (al (ax (aD h))))))))))))))))))))))))))))))))))))
theorem lX {A B:Type}{g:B->A}{T:Option B}{k0 k1 k2 k3 k5 k9 VM k17:IntKind}{x0:Int}{x1:Int}{x2:Int}{x3:Int}{x4:Bool}{x5:Int}{x6:List UInt8}{x7:List MV}{x8:List MV}{x9:Int}{qE:Int}{sB:List MV}{sQ:List MV}{sG:List MV}{uY:Bool}{yt:List UInt8}{BI:List MV}{xi:Int}{Ld:List MV}{K:Int->Int->Int->Int->Bool->Int->List UInt8->List MV->List MV->Int->Int->List MV->List MV->List MV->Bool->List UInt8->List MV->Int->List MV->Option A}(h:Sm g (K x0 x1 x2 x3 x4 x5 x6 x7 x8 x9 qE sB sQ sG uY yt BI xi Ld) T):Sm g (jR k0 k1 k2 k3 k5 k9 VM k17 [.i k0 x0,.i k1 x1,.i k2 x2,.i k3 x3,.b x4,.i k5 x5,.s x6,.list x7,.list x8,.i k9 x9,.i VM qE,.list sB,.list sQ,.list sG,.b uY,.s yt,.list BI,.i k17 xi,.list Ld] K) T:=al (ax (al (ax (al (ax (al (ax (al (aM (al (ax (al (eF (al (bg (al (bg (al (ax (al (ax (al (bg (al (bg (al (bg (al (aM (al (eF (al (bg (al (ax (al (bg (aD h))))))))))))))))))))))))))))))))))))))
theorem na {A B:Type}{g:B->A}{T:Option B}{k0 k1 k2 k3 k4 k5 k8 k9 k12 k13 k15:IntKind}{x0:Int}{x1:Int}{x2:Int}{x3:Int}{x4:Int}{x5:Int}{x6:List UInt8}{x7:List MV}{x8:Int}{x9:Int}{qE:List UInt8}{sB:List MV}{sQ:Int}{sG:Int}{uY:Bool}{yt:Int}{BI:List UInt8}{xi:List MV}{K:Int->Int->Int->Int->Int->Int->List UInt8->List MV->Int->Int->List UInt8->List MV->Int->Int->Bool->Int->List UInt8->List MV->Option A}(h:Sm g (K x0 x1 x2 x3 x4 x5 x6 x7 x8 x9 qE sB sQ sG uY yt BI xi) T):Sm g (sR k0 k1 k2 k3 k4 k5 k8 k9 k12 k13 k15 [.i k0 x0,.i k1 x1,.i k2 x2,.i k3 x3,.i k4 x4,.i k5 x5,.s x6,.list x7,.i k8 x8,.i k9 x9,.s qE,.list sB,.i k12 sQ,.i k13 sG,.b uY,.i k15 yt,.s BI,.list xi] K) T:=al (ax (al (ax (al (ax (al (ax (al (ax (al (ax (al (eF (al (bg (al (ax (al (ax (al (eF (al (bg (al (ax (al (ax (al (aM (al (ax (al (eF (al (bg (aD h))))))))))))))))))))))))))))))))))))
theorem da {A B:Type}{g:B->A}{T:Option B}{k0 k1 k2 k5 k6 k9 VM k12:IntKind}{x0:Int}{x1:Int}{x2:Int}{x3:List UInt8}{x4:List MV}{x5:Int}{x6:Int}{x7:List UInt8}{x8:List MV}{x9:Int}{qE:Int}{sB:Bool}{sQ:Int}{sG:List UInt8}{uY:List MV}{K:Int->Int->Int->List UInt8->List MV->Int->Int->List UInt8->List MV->Int->Int->Bool->Int->List UInt8->List MV->Option A}(h:Sm g (K x0 x1 x2 x3 x4 x5 x6 x7 x8 x9 qE sB sQ sG uY) T):Sm g (ny k0 k1 k2 k5 k6 k9 VM k12 [.i k0 x0,.i k1 x1,.i k2 x2,.s x3,.list x4,.i k5 x5,.i k6 x6,.s x7,.list x8,.i k9 x9,.i VM qE,.b sB,.i k12 sQ,.s sG,.list uY] K) T:=al (ax (al (ax (al (ax (al (eF (al (bg (al (ax (al (ax (al (eF (al (bg (al (ax (al (ax (al (aM (al (ax (al (eF (al (bg (aD h))))))))))))))))))))))))))))))
theorem dY {A B:Type}{g:B->A}{T:Option B}{k0 k1:IntKind}{x0:Int}{x1:Int}{x2:List MV}{x3:List MV}{x4:List MV}{x5:Bool}{x6:List UInt8}{K:Int->Int->List MV->List MV->List MV->Bool->List UInt8->Option A}(h:Sm g (K x0 x1 x2 x3 x4 x5 x6) T):Sm g (Ay k0 k1 [.i k0 x0,.i k1 x1,.list x2,.list x3,.list x4,.b x5,.s x6] K) T:=al (ax (al (ax (al (bg (al (bg (al (bg (al (aM (al (eF (aD h))))))))))))))
theorem bE {A B:Type}{g:B->A}{T:Option B}{k0 k1:IntKind}{x0:Int}{x1:Int}{x2:List MV}{x3:List MV}{x4:List MV}{x5:List MV}{K:Int->Int->List MV->List MV->List MV->List MV->Option A}(h:Sm g (K x0 x1 x2 x3 x4 x5) T):Sm g (lk k0 k1 [.i k0 x0,.i k1 x1,.list x2,.list x3,.list x4,.list x5] K) T:=al (ax (al (ax (al (bg (al (bg (al (bg (al (bg (aD h))))))))))))
theorem BQ {A B:Type}{g:B->A}{T:Option B}{k0 k1 k6:IntKind}{x0:Int}{x1:Int}{x2:List MV}{x3:List MV}{x4:List MV}{x5:List MV}{x6:Int}{K:Int->Int->List MV->List MV->List MV->List MV->Int->Option A}(h:Sm g (K x0 x1 x2 x3 x4 x5 x6) T):Sm g (Jx k0 k1 k6 [.i k0 x0,.i k1 x1,.list x2,.list x3,.list x4,.list x5,.i k6 x6] K) T:=al (ax (al (ax (al (bg (al (bg (al (bg (al (bg (al (ax (aD h))))))))))))))
theorem gQ {A B:Type}{g:B->A}{T:Option B}{k0 k1:IntKind}{x0:Int}{x1:Int}{x2:List UInt8}{K:Int->Int->List UInt8->Option A}(h:Sm g (K x0 x1 x2) T):Sm g (amM k0 k1 [.i k0 x0,.i k1 x1,.s x2] K) T:=al (ax (al (ax (al (eF (aD h))))))
theorem AW {A B:Type}{g:B->A}{T:Option B}{k0:IntKind}{x0:Int}{x1:List UInt8}{x2:Bool}{K:Int->List UInt8->Bool->Option A}(h:Sm g (K x0 x1 x2) T):Sm g (aeP k0 [.i k0 x0,.s x1,.b x2] K) T:=al (ax (al (eF (al (aM (aD h))))))
theorem q9 {A B:Type}{g:B->A}{T:Option B}{k1:IntKind}{x0:List MV}{x1:Int}{K:List MV->Int->Option A}(h:Sm g (K x0 x1) T):Sm g (oLI k1 [.list x0,.i k1 x1] K) T:=al (bg (al (ax (aD h))))
theorem XP (a:mb)(a1:List dv):Sm MV.b (BK (C3 a) (.list (a1.map mM))) (xf a a1):=by
 unfold BK xf;refine aL (al (ax (al (ax (al (bg (al (bg (aD (bg ?_))))))))));refine ap (f:=λr=>[.b r]) ?_ λw=> ?_
 ·refine bh ?_ ?_
  ·exact aq
  ·refine bn<|bh ?_ ?_
   ·exact aq
   ·refine bn<|bh ?_ ?_
    ·exact aq
    ·refine bn aq
 ·refine al (aM (aD (aH ?_ ?_)))
  ·exact aq
  ·refine ap (dM (λr=>[.i .i64 r]) (aaK (λr=>(2,[])) (λr=>(1,[.b r]))) (rfl) λst=> ?_) λw1=> ?_
   ·unfold vH;refine al (ax (aD (bn (bh ?_ ?_))))
    ·refine bW (f:=MV.s) (rfl) λy=>eF<|bh ?_ ?_
     ·exact aq
     ·exact aq
    ·exact aq
   ·rcases w1 with p1|p2
    ·refine oQ rfl (aD (ap (dM (λr=>[.i .i64 r]) (aaK (λr=>(4,[])) (λr=>(1,[.b r]))) (rfl) λcR=> ?_) λw2=> ?_))
     ·unfold rZ;refine al (ax (aD (bn (bh ?_ ?_))))
      ·refine bW (f:=mM) (rfl) λy1=>aL (na ?_);refine ap (f:=λr=>[.b r]) ?_ λw3=> ?_
       ·refine bh ?_ ?_
        ·exact aq
        ·refine bh ?_ ?_
         ·exact aq
         ·refine bn<|bh ?_ ?_
          ·exact aq
          ·refine bn<|bh ?_ ?_
           ·exact aq
           ·refine bh ?_ ?_
            ·exact aq
            ·refine bn aq
       ·refine al (aM (aD (aH ?_ ?_)))
        ·exact aq
        ·refine ap (dM (λr=>[.i .i64 r]) (aaK (λr=>(6,[])) (λr=>(1,[.b r]))) (rfl) λef=> ?_) λw4=> ?_
         ·unfold rY;refine al (ax (aD (bn (bh ?_ ?_))))
          ·refine bW (f:=aG) (rfl) λy2=>aL (ft (bn (bh ?_ ?_)))
           ·exact aq
           ·exact aq
          ·exact aq
         ·rcases w4 with p5|p6
          ·refine oQ rfl (aD aq)
          ·refine oR rfl (bO rfl (al (aM (aD aq))))
      ·exact aq
     ·rcases w2 with p7|p8
      ·refine oQ rfl (aD aq)
      ·refine oR rfl (bO rfl (al (aM (aD aq))))
    ·refine oR rfl (bO rfl (al (aM (aD aq))))
theorem LO (sA:ae):Sm (λx:Nat×Nat=>MV.raw (.complex .f64 x.1 x.2)) (ru (bK sA)) (wo sA):=by unfold ru wo;refine aL (mz aq)
theorem pf (sA:ae)(times:Nat×Nat):Sm (MV.i .i64) (jT (bK sA) (.raw (.complex .f64 times.1 times.2))) (kW sA times):=by unfold jT kW;refine aL (mz (aa8 (ap (LO sA) λrA=>aa8 (OS (OS (HR λf=>OS (OS (HR λf1=>HR λf2=>HR λn=>eL aq))))))))
theorem yH (sA:ae):Sm (MV.i .i64) (sH (bK sA)) (pH sA):=by unfold sH pH;refine aL (mz (ap (pf sA (4613937818241073152,4611686018427387904)) λrA=>ax aq))
theorem ra (sA:ae):Sm MV.b (ll (bK sA)) (j9 sA):=by
 unfold ll j9;refine aL (mz ?_);refine ap (f:=λr=>[.b r]) ?_ λw=> ?_
 ·refine bh ?_ ?_
  ·refine bh ?_ ?_
   ·refine bh ?_ ?_
    ·exact aq
    ·exact aq
   ·exact aq
  ·exact aq
 ·refine al (aM (aD aq))
theorem EA (sA:ae)(me:Int):Sm (λr=> .eu [cq r.1,.i .i64 r.2]) (pS (bK sA) (.i .i64 me)) (nn sA me):=by
 unfold pS nn;refine aL (mz (ax ?_));refine ap (f:=λr=>[.b r]) ?_ λw=> ?_
 ·refine ap (ra sA) λrA=>aM<|aH ?_ ?_
  ·exact aq
  ·refine bh ?_ ?_
   ·exact aq
   ·refine ap (yH sA) λbu=>ax aq
 ·refine al (aM (aD (aH ?_ ?_)))
  ·exact aq
  ·exact aq
theorem GZ (sA:ae):Sm (λr=> .eu [dB r.1,.i .i64 r.2]) (sa (bK sA)) (o9 sA):=by
 unfold sa o9;refine aL (mz (ap (ra sA) λrA=>aM (aH ?_ ?_)))
 ·exact aq
 ·exact aq
theorem Uf (sA:ae)(i:Int):Sm (λr=> .eu [bj r.1,.i .i64 r.2]) (yu (bK sA) (.i .i64 i)) (uo sA i):=by
 unfold yu uo;refine aL (mz (ax (ap (EA sA i) λrA=>fg (al (aL (fW (al (ax (aD (aH ?_ ?_))))))))))
 ·exact aq
 ·refine ap (GZ sA) λbu=>fg (al (aL (dY (al (ax (aD aq))))))
theorem RB (a:ae)(a1:List Bool)(a2:List (List UInt8)):Sm (λr=> .eu [fT r.1,.i .i64 r.2]) (AA (bK a) (.list (a1.map MV.b)) (.list (a2.map MV.s))) (pI a a1 a2):=by
 unfold AA pI;refine aL (mz (bg (bg ?_)));refine ap (f:=λr=>[.b r]) ?_ λw=> ?_
 ·refine ap (ra a) λrA=>aM<|aH ?_ ?_
  ·exact aq
  ·refine bn<|ap (yH a) λbu=>ax<|aH ?_ ?_
   ·exact aq
   ·refine bn (bn aq)
 ·refine al (aM (aD (aH ?_ ?_)))
  ·exact aq
  ·refine ap (yo (size:=1) (f:=MV.b) (λ_=>rfl) a1) λcg=>qD<|ap (yo (size:=1) (f:=MV.s) (λ_=>rfl) a2) λcM=>qD (bn (ap (dM (λr=>[.i .i64 r.1,.i .i64 r.2.1,.list (r.2.2.1.map MV.b),.list (r.2.2.2.1.map MV.s),.list (r.2.2.2.2.1.map bj),.list (r.2.2.2.2.2.1.map aV),.i .i64 r.2.2.2.2.2.2.1,.i .i64 r.2.2.2.2.2.2.2.1,.list (r.2.2.2.2.2.2.2.2.1.map MV.b),.list (r.2.2.2.2.2.2.2.2.2.1.map MV.s),.list (r.2.2.2.2.2.2.2.2.2.2.1.map bj),.list (r.2.2.2.2.2.2.2.2.2.2.2.1.map aV),.i .i64 r.2.2.2.2.2.2.2.2.2.2.2.2.1,.i .i64 r.2.2.2.2.2.2.2.2.2.2.2.2.2]) (aaK (λr=>(2,[.i .i64 r.1,.i .i64 r.2.1,.list (r.2.2.1.map MV.b),.list (r.2.2.2.1.map MV.s),.list (r.2.2.2.2.1.map bj),.list (r.2.2.2.2.2.1.map aV),.i .i64 r.2.2.2.2.2.2.1,.i .i64 r.2.2.2.2.2.2.2.1,.list (r.2.2.2.2.2.2.2.2.1.map MV.b),.list (r.2.2.2.2.2.2.2.2.2.1.map MV.s),.list (r.2.2.2.2.2.2.2.2.2.2.1.map bj),.list (r.2.2.2.2.2.2.2.2.2.2.2.map aV)])) (λr=>(1,(v3 r)))) (rfl) λst=> ?_) λw1=> ?_))
   ·unfold yq;refine al (ax (al (ax (al (bg (al (bg (al (bg (al (bg (al (ax (al (ax (al (bg (al (bg (al (bg (al (bg (mz (bh ?_ ?_)))))))))))))))))))))))))
    ·refine bW (f:=MV.b) (rfl) λy=>aM<|ap (f:=(λr=>(0,[.i .i64 r]))) ?_ λw2=> ?_
     ·refine aH ?_ ?_
      ·exact aq
      ·exact aq
     ·refine bO rfl (al (ax (aD ?_)));refine ap (f:=λr=>[.b r]) ?_ λw3=> ?_
      ·refine bW (f:=MV.s) (rfl) λy1=>eF<|bh ?_ ?_
       ·exact aq
       ·exact aq
      ·refine al (aM (aD (aH ?_ ?_)))
       ·exact aq
       ·refine ap (Uf a st.2.2.2.2.2.2.2.2.2.2.2.2.2) λiR=>fg (al (aL (aJ (al (ax (aD (bn (rJ (([iR.1]:List ao).length) (eL (jM (by simp [aw,bk,pQ,v3])))))))))))
    ·exact aq
   ·rcases w1 with p2|p3
    ·refine oQ rfl (al (ax (al (ax (al (bg (al (bg (al (bg (al (bg (bE aq)))))))))))))
    ·refine oR rfl (bO rfl (BQ aq))
theorem Kq (b:List Int):Sm (λr=> .eu [.i .u64 r.1,.list (r.2.1.map (MV.i .u8)),.i .i64 r.2.2]) (uC (.list (b.map (MV.i .u8)))) (qT b):=by
 unfold uC qT;refine bg (bn (bh ?_ ?_))
 ·exact aq
 ·refine bW (f:=(MV.i .u8)) (rfl) λy=> ?_;refine ax (bO (yn (rfl:_=acE (MV.i .u8) b) λ_=>rfl) (bn (eL ?_)));refine ap (f:=λr=>[.b r]) ?_ λw=> ?_
  ·refine bh ?_ ?_
   ·exact aq
   ·refine bh ?_ ?_
    ·refine ym (n:=(abF (cV 1) (abG (cV (b.length:Int)) b)).length) (by simp only [sh,AT,AI,BY,OF,aau,aaJ])<|bh ?_ ?_
     ·refine bW (f:=(MV.i .u8)) (by simp only [BG,abB,IT,aaP,abC,aaU,abz,abE]) λy1=>ax aq
     ·exact aq
    ·exact aq
  ·refine al (aM (aD (aH ?_ ?_)))
   ·exact aq
   ·refine ym (n:=(abF (cV 1) (abG (cV (b.length:Int)) b)).length) (by simp only [sh,AT,AI,BY,OF,aau,aaJ])<|bh ?_ ?_
    ·exact aq
    ·refine ym (n:=(abF (cV 1) (abG (cV (b.length:Int)) b)).length) (by simp only [sh,AT,AI,BY,OF,aau,aaJ]) (eL (ym (n:=(abF (cV 0) (abG (cV (No .i64 y)) (abF (cV 1) (abG (cV (b.length:Int)) b)))).length) (by simp only [sh,AT,AI,BY,OF,aau,aaJ]) ?_));refine ap (dM (λr=>[.i .u64 r.1,.i .i64 r.2]) (λr=>(3,[.i .u64 r])) (rfl) λst=> ?_) λw1=> ?_
     ·unfold pJ;refine mz<|bh ?_ ?_
      ·refine bW (f:=(MV.i .u8)) (by simp only [BG,abB,IT,aaP,abC,aaU,abz,abE]) λy2=>ax (eL aq)
      ·exact aq
     ·refine bO rfl (al (ax (aD (bO (yn ((by simp only [BG,abB,IT,aaP,abC,aaU,abz,abE]):_=acE (MV.i .u8) (abF (cV 1) (abG (cV (b.length:Int)) b))) λ_=>rfl) (ym (n:=(abF (cV 1) (abG (cV (b.length:Int)) b)).length) (by simp only [sh,AT,AI,BY,OF,aau,aaJ]) (eL ?_))))));exact jM (by first|(simp;done)|simp only [IT,aaP,abC,aaU,abz,abE])
theorem LP (b:List Int):Sm (λr=> .eu [.i .i64 r.1,.list (r.2.1.map (MV.i .u8)),.i .i64 r.2.2]) (rv (.list (b.map (MV.i .u8)))) (nZ b):=by unfold rv nZ;refine bg<|ap (Kq b) λrA=>fg (al (ax (q9 (eL aq))))
theorem gM (t:aO):Sm (λr=> .ew ((MV.i .i64) r.1) (eQ r.2)) (dK (eQ t)) (b5 t):=by
 unfold dK b5;refine q9<|ap (f:=(λr=>(0,[.i .i64 r.1,.list (r.2.1.map (MV.i .u8)),.i .i64 r.2.2]))) ?_ λw=> ?_
 ·refine bh ?_ ?_
  ·refine ap (LP t.b) λrA=>fg (al (ax (q9 aq)))
  ·exact aq
 ·refine bO rfl (al (ax (q9 aq)))
theorem Kr (b:List Int)(most:Int):Sm (λr=> .eu [.s r.1,.list (r.2.1.map (MV.i .u8)),.i .i64 r.2.2]) (pT (.list (b.map (MV.i .u8))) (.i .i64 most)) (kI b most):=by
 unfold pT kI;refine bg (ax (ap (Kq b) λrA=>fg (al (ax (q9 (aH ?_ ?_))))))
 ·exact aq
 ·refine bh ?_ ?_
  ·exact aq
  ·refine bn<|bh ?_ ?_
   ·exact aq
   ·refine bn (eL (air (M:=abF (cV 0) (abG (cV rA.1) rA.2.1)) ((by simp only [BG,abB,IT,aaP,abC,aaU,abz,abE])) λbs=> ?_));refine bO (yn (rfl:_=acE (MV.i .u8) rA.2.1) λ_=>rfl) (bn (eL (jM (by first|(simp;done)|simp only [IT,aaP,abC,aaU,abz,abE]))))
theorem sX (t:aO):Sm (λr=> .ew (MV.s r.1) (eQ r.2)) (iA (eQ t)) (dw t):=by
 unfold iA dw;refine q9<|ap (f:=(λr=>(0,[.s r.1,.list (r.2.1.map (MV.i .u8)),.i .i64 r.2.2]))) ?_ λw=> ?_
 ·refine bh ?_ ?_
  ·refine ap (Kr t.b 6000) λrA=>fg (al (eF (q9 aq)))
  ·exact aq
 ·refine bO rfl (al (eF (q9 aq)))
theorem AX (t:aO):Sm (λr=> .ew ((QZ ak) r.1) (eQ r.2)) (jU (eQ t)) (dE t):=by
 unfold jU dE;refine q9<|ap (gM t) λrA=>nY (q9 (ax ?_));refine ap (f:=λr=>[.b r]) ?_ λw=> ?_
 ·refine bh ?_ ?_
  ·exact aq
  ·exact aq
 ·refine al (aM (aD (ap (f:=(λr=>(0,[.list (r.1.map (MV.i .u8)),.i .i64 r.2]))) ?_ λw1=> ?_)))
  ·refine aH ?_ ?_
   ·exact aq
   ·exact aq
  ·refine bO rfl (q9 ?_);refine ap (f:=λr=>[.b r]) ?_ λw2=> ?_
   ·refine aH ?_ ?_
    ·exact aq
    ·exact aq
   ·refine al (aM (aD (aH ?_ ?_)))
    ·exact aq
    ·refine eL (ym (n:=(acT (cV rA.1) (⟨0,0,([]:List UInt8)⟩:aa)).length) (by simp only [List.length_replicate,sh,AT,AI,BY,OF,aau,aaJ]) ?_);refine ap (dM (λr=>[.list (r.1.map ak),.i .i64 r.2.1,.list (r.2.2.1.map (MV.i .u8)),.i .i64 r.2.2.2]) (λr=>(2,[.list (r.1.map ak),.list (r.2.1.map (MV.i .u8)),.i .i64 r.2.2])) (by simp [eQ]) λst=> ?_) λw3=> ?_
     ·unfold ca;refine al (bg (al (ax (q9 (bh ?_ ?_)))))
      ·refine ap (gM (⟨st.2.2.1,st.2.2.2⟩:aO)) λbu=>nY (q9 (ax (bW (f:=ak) (rfl) λy=>aL (gQ (jM (by simp [eQ]))))))
      ·exact aq
     ·refine bO rfl (al (bg (q9 (ap (gM (⟨w3.2.1,w3.2.2⟩:aO)) λcg=>nY (q9 (ax (ap (sX cg.2) λcM=>nY (q9 (eF (bn (ap (dM (λr=>[.list (r.1.map ak),.i .i64 r.2]) (λr=>(4,[.list (r.map ak)])) (rfl) λcR=> ?_) λw4=> ?_)))))))))))
      ·unfold fL;refine q9<|bh ?_ ?_
       ·refine bW (f:=ak) (rfl) λy1=>aL (gQ (bW (f:=ak) (by simp only [BG,abB,IT,aaP,abC,aaU,abz,abE]) λy2=>aL (gQ (jM (by simp [eQ])))))
       ·exact aq
      ·refine bO rfl (al (bg (aD aq)))
theorem CC (isA:Bool):Sm (MV.i .i64) (n9 (.b isA)) (iS isA):=by
 unfold n9 iS;refine aM<|aH ?_ ?_
 ·exact aq
 ·exact aq
theorem yI (sA:ae):Sm (MV.i .i64) (oT (bK sA)) (mN sA):=by unfold oT mN;refine aL (mz (ap (pf sA (4611686018427387904,4607182418800017408)) λrA=>ax aq))
theorem tO (a:aa):Sm MV.b (nz (ak a)) (kJ a):=by
 unfold nz kJ;refine aL (gQ ?_);refine ap (f:=λr=>[.b r]) ?_ λw=> ?_
 ·refine bh ?_ ?_
  ·refine bh ?_ ?_
   ·refine bh ?_ ?_
    ·exact aq
    ·exact aq
   ·exact aq
  ·exact aq
 ·refine al (aM (aD aq))
theorem RC (t:aA):Sm MV.b (vK (iP t)) (r6 t):=by
 unfold vK r6;refine aL (al (bg (aD (bn (ap (dM (λr=>[.i .i64 r]) (aaK (λr=>(2,[])) (λr=>(1,[.b r]))) (rfl) λst=> ?_) λw=> ?_)))))
 ·unfold rq;refine al (ax (aD (bh ?_ ?_)))
  ·refine bW (f:=ak) (rfl) λy=>aL (gQ ?_);refine ap (f:=λr=>[.b r]) ?_ λw1=> ?_
   ·refine ap (tO y) λrA=>aM<|aH ?_ ?_
    ·exact aq
    ·refine bh ?_ ?_
     ·refine bW (f:=ak) (rfl) λy1=>aL (gQ aq)
     ·exact aq
   ·refine al (aM (aD (aH ?_ ?_)))
    ·exact aq
    ·exact aq
  ·exact aq
 ·rcases w with p1|p2
  ·refine oQ rfl (aD aq)
  ·refine oR rfl (bO rfl (al (aM (aD aq))))
theorem EB (t:aA)(view:Int)(value:List UInt8):Sm (QZ ak) (pU (iP t) (.i .i64 view) (.s value)) (np t view value):=by
 unfold pU np;refine aL (al (bg (aD (ax (eF (bn (ap (dM (λr=>[.list (r.1.map ak),.i .i64 r.2]) (λr=>(2,[.list (r.map ak)])) (rfl) λst=> ?_) λw=> ?_)))))))
 ·unfold mO;refine q9<|bh ?_ ?_
  ·refine bW (f:=ak) (rfl) λy=>aL (gQ ?_);refine ap (f:=λr=>[.b r]) ?_ λw1=> ?_
   ·refine bh ?_ ?_
    ·exact aq
    ·exact aq
   ·refine al (aM (aD (ap (f:=(λr=>(0,[.list (r.map ak)]))) ?_ λw2=> ?_)))
    ·refine aH ?_ ?_
     ·refine bn (rJ (([y]:List aa).length) (eL (jM (by simp))))
     ·exact aq
    ·refine bO rfl (al (bg (aD aq)))
  ·exact aq
 ·refine bO rfl (al (bg (aD aq)))
theorem RD (t:aA)(view:Int)(value:List UInt8):Sm (MV.i .i64) (vL (iP t) (.i .i64 view) (.s value)) (r7 t view value):=by unfold vL r7;refine aL (al (bg (aD (ax (eF (ap (EB t view value) λrA=>bg (bn aq)))))))
theorem AY (sA:ae)(p:List aa):Sm MV.b (pc (bK sA) (.list (p.map ak))) (kX sA p):=by
 unfold pc kX;refine aL (mz (bg ?_));refine ap (f:=λr=>[.b r]) ?_ λw=> ?_
 ·refine ap (ra sA) λrA=>aM<|aH ?_ ?_
  ·exact aq
  ·refine bn<|ap (yI sA) λbu=>ax<|aH ?_ ?_
   ·exact aq
   ·refine ap (RC (⟨p⟩:aA)) λcg=>aM aq
 ·refine al (aM (aD (aH ?_ ?_)))
  ·exact aq
  ·refine ap (f:=λr=>[.b r]) ?_ λw1=> ?_
   ·refine bn<|bW (f:=ak) (rfl) λy=>aL (gQ (ap (yH sA) λcM=>ax (bh ?_ ?_)))
    ·refine bW (f:=ak) (rfl) λy1=>aL (gQ (bW (f:=ak) (rfl) λy2=>aL (gQ (bn (ap (RD (⟨p⟩:aA) y1.View y2.Value) λiR=>ax aq)))))
    ·exact aq
   ·refine al (aM (aD aq))
theorem yJ (a:af):Sm MV.b (iH (cq a)) (ez a):=by
 unfold iH ez;refine aL (fW ?_);refine ap (f:=λr=>[.b r]) ?_ λw=> ?_
 ·refine bh ?_ ?_
  ·exact aq
  ·exact aq
 ·refine al (aM (aD (aH ?_ ?_)))
  ·exact aq
  ·refine ap (f:=λr=>[.b r]) ?_ λw1=> ?_
   ·refine aH ?_ ?_
    ·refine bh ?_ ?_
     ·exact aq
     ·refine bh ?_ ?_
      ·exact aq
      ·exact aq
    ·exact aq
   ·refine al (aM (aD (aH ?_ ?_)))
    ·exact aq
    ·refine ap (f:=λr=>[.b r]) ?_ λw2=> ?_
     ·refine aH ?_ ?_
      ·refine aH ?_ ?_
       ·exact aq
       ·exact aq
      ·exact aq
     ·refine al (aM (aD (aH ?_ ?_)))
      ·exact aq
      ·refine ap (f:=λr=>[.b r]) ?_ λw3=> ?_
       ·refine bn<|bh ?_ ?_
        ·exact aq
        ·refine ap (AY a.S a.Proof) λrA=>aM<|aH ?_ ?_
         ·refine bW (f:=ak) (rfl) λy=>aL (gQ aq)
         ·exact aq
       ·refine al (aM (aD aq))
theorem LQ (a:ae)(a1:Int)(a2:List Int):Sm (λr=> .eu [cq r.1,.i .i64 r.2]) (rz (bK a) (.i .i64 a1) (.list (a2.map (MV.i .u8)))) (lL a a1 a2):=by
 unfold rz lL;refine aL (mz (ax (bg (ap (EA a a1) λrA=>fg (al (aL (fW (al (ax (aD (aH ?_ ?_)))))))))))
 ·exact aq
 ·refine ap (gM (⟨a2,0⟩:aO)) λbu=>nY (q9 (ax (ap (gM bu.2) λcg=>nY (q9 (ax (ap (gM cg.2) λcM=>nY (q9 (ax (ap (sX cM.2) λiR=> ?_)))))))));refine nY (q9 (eF (ap (AX iR.2) λmc=>nY (q9 (bg ?_)))));refine ap (f:=λr=>[.b r]) ?_ λw=> ?_
  ·refine aH ?_ ?_
   ·exact aq
   ·refine ap (CC (decide (cg.1=1))) λsw=>ax<|aH ?_ ?_
    ·exact aq
    ·refine bn<|bh ?_ ?_
     ·exact aq
     ·refine ap (yJ (⟨rA.1.S,rA.1.Me,bu.1,decide (cg.1=1),cM.1,iR.1,mc.1,rA.1.bT⟩:af)) λDv=>aM aq
  ·refine al (aM (aD (aH ?_ ?_)))
   ·exact aq
   ·exact aq
theorem EC (p:List aa):Sm (λr=> .eu (v7 r)) (uF (.list (p.map ak))) (n4 p):=by
 unfold uF n4;refine bg (bn (bh ?_ ?_))
 ·exact aq
 ·refine bW (f:=ak) (rfl) λy=>aL (gQ (bW (f:=ak) (rfl) λy1=>aL (gQ aq)))
theorem Ug (x:Int):Sm (MV.i .i64) (yw (.i .u64 x)) (yr x):=by
 unfold yw yr;refine ax<|ap (f:=(λr=>(0,[.i .u64 r.1,.i .i64 r.2]))) ?_ λw=> ?_
 ·refine bh ?_ ?_
  ·refine eL aq
  ·exact aq
 ·refine bO rfl (mz (ap (f:=(λr=>(0,[.i .u64 r.1,.i .i64 r.2]))) ?_ λw1=> ?_))
  ·refine bh ?_ ?_
   ·refine eL aq
   ·exact aq
  ·refine bO rfl (mz (ap (f:=(λr=>(0,[.i .u64 r.1,.i .i64 r.2]))) ?_ λw2=> ?_))
   ·refine bh ?_ ?_
    ·refine eL aq
    ·exact aq
   ·refine bO rfl (mz (eL aq))
theorem Uh (n:Int):Sm (MV.i .i64) (yx (.i .u64 n)) (uq n):=by unfold yx uq;refine ax<|ap (Ug n) λrA=>ax (VI aq)
theorem HE (sA:List Int):Sm (agB (MV.i .u8)) (ox (.list (sA.map (MV.i .u8)))) (ou sA):=by unfold ox ou;refine bg (bn (bn (VJ (by simp only [sh]) aq)))
theorem Nd (b:List Int)(n:Int):Sm (Xu (MV.i .u8)) (xq (.list (b.map (MV.i .u8))) (.i .u64 n)) (tI b n):=by
 unfold xq tI;refine bg (ax (ap (Uh n) λrA=>ax (ap (HE b) λbu=> ?_)));refine T4 (bO (yn (rfl:_=acE (MV.i .u8) bu) λ_=>rfl) (bn (rJ (([No .u8 (No .i64 (rA-1))]:List Int).length) (eL (ap (dM (λr=>[.list (r.1.map (MV.i .u8)),.i .i64 r.2]) (λr=>(2,[.list (r.map (MV.i .u8))])) (by simp) λst=> ?_) λw=> ?_)))))
 ·unfold r8;refine q9<|bh ?_ ?_
  ·refine eL (bn (rJ (([No .u8 (Int.fdiv n (2^min (cV (No .i64 (8 *st.2))) (acN .u64)))]:List Int).length) (eL (jM (by simp)))))
  ·exact aq
 ·refine bO rfl (al (bg (aD aq)))
theorem tQ (b:List Int)(n:Int):Sm (Xu (MV.i .u8)) (nA (.list (b.map (MV.i .u8))) (.i .i64 n)) (lM b n):=by unfold nA lM;refine bg (ax (eL (eL (ap (Nd b (E8 .u64 (No .u64 ((No .u64 n) *2^min (cV 1) (acN .u64))) (No .u64 (Int.fdiv n (2^min (cV 63) (acN .i64)))))) λrA=>qD aq))))
theorem Ks (b:List Int)(sA:List UInt8):Sm (Xu (MV.i .u8)) (uG (.list (b.map (MV.i .u8))) (.s sA)) (qU b sA):=by unfold uG qU;refine bg (eF (ap (Nd b (No .u64 (sA.length:Int))) λrA=>qD (bn (ym (n:=(D5 sA).length) (by simp only [BG,sh,AT,AI,BY,OF,aau,aaJ]) (eL ?_)))));exact jM (by simp)
theorem LR (a:af):Sm (QZ (MV.i .u8)) (rC (cq a)) (n5 a):=by
 unfold rC n5;refine aL (fW (ap (tQ ([]:List Int) a.View) λrA=>qD (ap (CC a.Has) λbu=>ax (ap (tQ rA bu) λcg=>qD (ap (tQ cg a.At) λcM=>qD (bn (ap (Ks cM a.Value) λiR=> ?_)))))));refine qD<|ap (tQ iR (a.Proof.length:Int)) λmc=>qD (bn (ap (dM (λr=>[.list (r.1.map (MV.i .u8)),.i .i64 r.2]) (λr=>(2,[.list (r.map (MV.i .u8))])) (rfl) λst=> ?_) λw=> ?_))
 ·unfold ov;refine q9<|bh ?_ ?_
  ·refine bW (f:=ak) (rfl) λy=>aL (gQ (ap (tQ st.1 y.By) λsw=>qD aq))
  ·exact aq
 ·refine bO rfl (al (bg (aD (ap (EC a.Proof) λDv=>fg (AW (ap (f:=(λr=>(0,[.list (r.map (MV.i .u8))]))) ?_ λw1=> ?_))))))
  ·refine aH ?_ ?_
   ·refine ap (tQ w Dv.1) λrA8=>qD<|ap (Ks rA8 Dv.2.1) λrA9=>qD aq
   ·exact aq
  ·refine bO rfl (al (bg (aD aq)))
theorem O6 (sA:ae)(i:Int)(n:ao):Sm bj (tj (bK sA) (.i .i64 i) (bj n)) (nt sA i n):=by unfold tj nt;refine aL (mz (ax (aL (aJ (ap (LR n.A) λrA=>bg (ap (LQ sA i rA) λbu=>fg (al (aL (fW (al (ax (aD (ap (GZ sA) λcg=>fg (al (aL (dY (al (ax (aD ?_)))))))))))))))))));exact aq
theorem iV (c:aj)(i:Int)(bad:Bool):Sm MV.b (fp (fT c) (.i .i64 i) (.b bad)) (dF c i bad):=by
 unfold fp dF;refine aL (bE (ax (aM ?_)));refine ap (f:=λr=>[.b r]) ?_ λw=> ?_
 ·refine bh ?_ ?_
  ·refine bn<|bh ?_ ?_
   ·refine bW (f:=MV.b) (rfl) λy=>aM aq
   ·exact aq
  ·exact aq
 ·refine al (aM (aD aq))
theorem zG (s1:List aa)(s2:List aa):Sm MV.b (jy (.list (s1.map ak)) (.list (s2.map ak))) (gn s1 s2):=by
 unfold jy gn;refine bg (bg (bn (bn (aH ?_ ?_))))
 ·exact aq
 ·refine bn<|ap (dM (λr=>[.i .i64 r]) (aaK (λr=>(2,[])) (λr=>(1,[.b r]))) (rfl) λst=> ?_) λw=> ?_
  ·unfold fh;refine al (ax (aD (bh ?_ ?_)))
   ·refine bW (f:=ak) (rfl) λy=>aL (gQ (bW (f:=ak) (rfl) λy1=>aL (gQ (aH ?_ ?_))))
    ·exact aq
    ·exact aq
   ·exact aq
  ·rcases w with p1|p2
   ·refine oQ rfl (aD aq)
   ·refine oR rfl (bO rfl (al (aM (aD aq))))
theorem Ui (a:List aa)(b:List aa):Sm MV.b (yy (.list (a.map ak)) (.list (b.map ak))) (ur a b):=by unfold yy ur;refine bg (bg (ap (zG a b) λrA=>aM aq))
theorem LU (x:ab)(y:ab):Sm MV.b (rD (aG x) (aG y)) (kc x y):=by
 unfold rD kc;refine aL (ft (aL (ft ?_)));refine ap (f:=λr=>[.b r]) ?_ λw=> ?_
 ·refine bh ?_ ?_
  ·refine bh ?_ ?_
   ·refine bh ?_ ?_
    ·refine bh ?_ ?_
     ·refine bh ?_ ?_
      ·refine ap (Ui x.Proof y.Proof) λrA=>aM aq
      ·exact aq
     ·exact aq
    ·exact aq
   ·exact aq
  ·exact aq
 ·refine al (aM (aD aq))
theorem kN (s1:List ab)(s2:List ab)(eq:ab->ab->Option Bool){QQ:Nat}{DJ:List MV}(asg:gv QQ=false)(jW: ∀(u0:ab)(u1:ab),Sm MV.b (dg QQ ([aG u0,aG u1]++DJ)) (eq u0 u1)):Sm MV.b (ch (.list (s1.map aG)) (.list (s2.map aG)) (.func QQ DJ)) (bP s1 s2 eq):=by
 unfold ch bP;refine bg (bg (yl (bn (bn (aH ?_ ?_)))))
 ·exact aq
 ·refine bn<|ap (dM (λr=>[.i .i64 r]) (aaK (λr=>(2,[])) (λr=>(1,[.b r]))) (rfl) λst=> ?_) λw=> ?_
  ·unfold bp;refine al (ax (aD (bh ?_ ?_)))
   ·refine bW (f:=aG) (rfl) λy=>aL (ft (bW (f:=aG) (rfl) λy1=> ?_));refine aL (ft (Aw (bO (by rw [asg];rfl) ?_)));refine ap (jW y y1) λrA=>aM<|aH ?_ ?_
    ·exact aq
    ·exact aq
   ·exact aq
  ·rcases w with p1|p2
   ·refine oQ rfl (aD aq)
   ·refine oR rfl (bO rfl (al (aM (aD aq))))
theorem RE (a:List ab)(b:List ab):Sm MV.b (vM (.list (a.map aG)) (.list (b.map aG))) (mP a b):=by unfold vM mP;refine bg (bg (ap (kN a b kc (QQ:=176) (DJ:=[]) rfl (λu2 u3=>Sm.at (gY _ _) (LU u2 u3))) λrA=>aM aq))
theorem sY (m:ai)(c:ab):Sm MV.b (kv (aV m) (.rp [.i .i64 c.By,.i .i64 c.fS,.b c.Has,.i .i64 c.View,.s c.Value,.list (c.Proof.map ak)])) (cK m c):=by
 unfold kv cK;refine aL (da (Q0 (ft ?_)));refine ap (f:=λr=>[.b r]) ?_ λw=> ?_
 ·refine bh ?_ ?_
  ·refine ap (RE ([m.R]:List ab) ([c]:List ab)) λrA=>aM aq
  ·exact aq
 ·refine al (aM (aD aq))
theorem ED (m:ai)(c:aa):Sm MV.b (mf (aV m) (.rp [.i .i64 c.By,.i .i64 c.View,.s c.Value])) (il m c):=by
 unfold mf il;refine aL (da (Q0 (gQ ?_)));refine ap (f:=λr=>[.b r]) ?_ λw=> ?_
 ·refine bh ?_ ?_
  ·exact aq
  ·exact aq
 ·refine al (aM (aD aq))
theorem xA (sA:List ai)(f:ai->Option Bool){BN:Nat}{si:List MV}(Iw:gv BN=false)(jG: ∀(u0:ai),Sm MV.b (eK BN ([aV u0]++si)) (f u0)):Sm (MV.i .i64) (iv (.list (sA.map aV)) (.func BN si)) (fj sA f):=by
 unfold iv fj;refine bg (yl (bn (ap (dM (λr=>[.i .i64 r]) (aaK (λr=>(2,[])) (λr=>(1,[.i .i64 r]))) (rfl) λst=> ?_) λw=> ?_)))
 ·unfold cP;refine al (ax (aD (bh ?_ ?_)))
  ·refine bW (f:=aV) (rfl) λy=> ?_;refine aL (da (Aw (bO (by rw [Iw];rfl) ?_)));refine ap (jG y) λrA=>aM<|aH ?_ ?_
   ·exact aq
   ·exact aq
  ·exact aq
 ·rcases w with p1|p2
  ·refine oQ rfl (aD aq)
  ·refine oR rfl (bO rfl (al (ax (aD aq))))
theorem jo (sA:List ai)(f:ai->Option Bool){BN:Nat}{si:List MV}(Iw:gv BN=false)(jG: ∀(u0:ai),Sm MV.b (eK BN ([aV u0]++si)) (f u0)):Sm MV.b (dA (.list (sA.map aV)) (.func BN si)) (bD sA f):=by unfold dA bD;refine bg (yl (ap (xA sA f Iw jG) λrA=>ax aq))
theorem HF (c:aj)(a:aa):Sm MV.b (oz (fT c) (ak a)) (jH c a):=by
 unfold oz jH;refine aL (bE (aL (gQ ?_)));refine ap (f:=λr=>[.b r]) ?_ λw=> ?_
 ·refine ap (iV c a.By true) λrA=>aM<|aH ?_ ?_
  ·exact aq
  ·refine ap (jo c.aC (λu=>il u a) (BN:=179) (si:=[.rp [.i .i64 a.By,.i .i64 a.View,.s a.Value]]) rfl (λu1=>Sm.at (lW _ _) (ED u1 a))) λbu=> ?_;refine aM aq
 ·refine al (aM (aD aq))
theorem Ca (a:aa)(c:aj):Sm MV.b (kw (ak a) (.rp [.i .i64 c.S.F,.i .i64 c.S.T,.list (c.bY.map MV.b),.list (c.Want.map MV.s),.list (c.N.map bj),.list (c.aC.map aV)])) (fQ a c):=by unfold kw fQ;refine aL (gQ (Q0 (bE (ap (HF c a) λrA=>aM aq))))
theorem vc (sA:List aa)(f:aa->Option Bool){BN:Nat}{si:List MV}(Iw:gv BN=false)(iI: ∀(u0:aa),Sm MV.b (fw BN ([ak u0]++si)) (f u0)):Sm (MV.i .i64) (gh (.list (sA.map ak)) (.func BN si)) (eG sA f):=by
 unfold gh eG;refine bg (yl (bn (ap (dM (λr=>[.i .i64 r]) (aaK (λr=>(2,[])) (λr=>(1,[.i .i64 r]))) (rfl) λst=> ?_) λw=> ?_)))
 ·unfold cu;refine al (ax (aD (bh ?_ ?_)))
  ·refine bW (f:=ak) (rfl) λy=> ?_;refine aL (gQ (Aw (bO (by rw [Iw];rfl) ?_)));refine ap (iI y) λrA=>aM<|aH ?_ ?_
   ·exact aq
   ·exact aq
  ·exact aq
 ·rcases w with p1|p2
  ·refine oQ rfl (aD aq)
  ·refine oR rfl (bO rfl (al (ax (aD aq))))
theorem sJ (sA:List aa)(f:aa->Option Bool){BN:Nat}{si:List MV}(Iw:gv BN=false)(iI: ∀(u0:aa),Sm MV.b (fw BN ([ak u0]++si)) (f u0)):Sm MV.b (eT (.list (sA.map ak)) (.func BN si)) (ck sA f):=by unfold eT ck;refine bg (yl (ap (vc sA f Iw iI) λrA=>ax aq))
theorem ql (c:aj)(lA:List aa):Sm MV.b (iw (fT c) (.list (lA.map ak))) (dR c lA):=by unfold iw dR;refine aL (bE (bg (ap (sJ lA (λu=>fQ u c) (BN:=147) (si:=[.rp [.i .i64 c.S.F,.i .i64 c.S.T,.list (c.bY.map MV.b),.list (c.Want.map MV.s),.list (c.N.map bj),.list (c.aC.map aV)]]) rfl (λu1=>Sm.at (kL _ _) (Ca u1 c))) λrA=> ?_)));refine aM aq
theorem EE (c:aj)(rA:ab):Sm MV.b (mg (fT c) (aG rA)) (fM c rA):=by
 unfold mg fM;refine aL (bE (aL (ft ?_)));refine ap (f:=λr=>[.b r]) ?_ λw=> ?_
 ·refine ap (iV c rA.By true) λbu=>aM<|aH ?_ ?_
  ·refine ap (ql c rA.Proof) λcg=>aM<|aH ?_ ?_
   ·exact aq
   ·refine ap (jo c.aC (λu=>cK u rA) (BN:=143) (si:=[.rp [.i .i64 rA.By,.i .i64 rA.fS,.b rA.Has,.i .i64 rA.View,.s rA.Value,.list (rA.Proof.map ak)]]) rfl (λu1=>Sm.at (fP _ _) (sY u1 rA))) λcM=> ?_;refine aM aq
  ·refine ap (jo c.aC (λu2=>cK u2 rA) (BN:=143) (si:=[.rp [.i .i64 rA.By,.i .i64 rA.fS,.b rA.Has,.i .i64 rA.View,.s rA.Value,.list (rA.Proof.map ak)]]) rfl (λu3=>Sm.at (fP _ _) (sY u3 rA))) λiR=> ?_;refine aM aq
 ·refine al (aM (aD aq))
theorem O7 (rA:ab)(c:aj):Sm MV.b (tl (aG rA) (.rp [.i .i64 c.S.F,.i .i64 c.S.T,.list (c.bY.map MV.b),.list (c.Want.map MV.s),.list (c.N.map bj),.list (c.aC.map aV)])) (nu rA c):=by unfold tl nu;refine aL (ft (Q0 (bE (ap (EE c rA) λbu=>aM aq))))
theorem vd (sA:List ab)(f:ab->Option Bool){BN:Nat}{si:List MV}(Iw:gv BN=false)(iJ: ∀(u0:ab),Sm MV.b (fA BN ([aG u0]++si)) (f u0)):Sm (MV.i .i64) (gj (.list (sA.map aG)) (.func BN si)) (eH sA f):=by
 unfold gj eH;refine bg (yl (bn (ap (dM (λr=>[.i .i64 r]) (aaK (λr=>(2,[])) (λr=>(1,[.i .i64 r]))) (rfl) λst=> ?_) λw=> ?_)))
 ·unfold cw;refine al (ax (aD (bh ?_ ?_)))
  ·refine bW (f:=aG) (rfl) λy=> ?_;refine aL (ft (Aw (bO (by rw [Iw];rfl) ?_)));refine ap (iJ y) λrA=>aM<|aH ?_ ?_
   ·exact aq
   ·exact aq
  ·exact aq
 ·rcases w with p1|p2
  ·refine oQ rfl (aD aq)
  ·refine oR rfl (bO rfl (al (ax (aD aq))))
theorem sK (sA:List ab)(f:ab->Option Bool){BN:Nat}{si:List MV}(Iw:gv BN=false)(iJ: ∀(u0:ab),Sm MV.b (fA BN ([aG u0]++si)) (f u0)):Sm MV.b (eU (.list (sA.map aG)) (.func BN si)) (cm sA f):=by unfold eU cm;refine bg (yl (ap (vd sA f Iw iJ) λrA=>ax aq))
theorem Uj (c:aj)(m:ai):Sm MV.b (yA (fT c) (aV m)) (lh c m):=by
 unfold yA lh;refine aL (bE (aL (da (bh ?_ ?_))))
 ·refine ap (f:=λr=>[.b r]) ?_ λw=> ?_
  ·refine ap (iV c m.cN true) λrA=>aM<|aH ?_ ?_
   ·refine ap (sK m.fC (λu=>nu u c) (BN:=79) (si:=[.rp [.i .i64 c.S.F,.i .i64 c.S.T,.list (c.bY.map MV.b),.list (c.Want.map MV.s),.list (c.N.map bj),.list (c.aC.map aV)]]) rfl (λu1=>Sm.at (nB _ _) (O7 u1 c))) λbu=> ?_;refine aM aq
   ·exact aq
  ·refine al (aM (aD aq))
 ·refine bh ?_ ?_
  ·refine ap (iV c m.bM.By true) λcg=>aM aq
  ·refine bh ?_ ?_
   ·refine ap (f:=λr=>[.b r]) ?_ λw1=> ?_
    ·refine ap (iV c m.cN true) λcM=>aM<|aH ?_ ?_
     ·refine ap (ql c m.Proof) λiR=>aM aq
     ·exact aq
    ·refine al (aM (aD aq))
   ·refine bh ?_ ?_
    ·refine ap (f:=λr=>[.b r]) ?_ λw2=> ?_
     ·refine ap (iV c m.R.By true) λmc=>aM<|aH ?_ ?_
      ·refine ap (ql c m.R.Proof) λsw=>aM aq
      ·exact aq
     ·refine al (aM (aD aq))
    ·refine bh ?_ ?_
     ·refine ap (iV c m.cN true) λDv=>aM aq
     ·exact aq
theorem uL (sA:List ai):Sm (agB aV) (eZ (.list (sA.map aV))) (gE sA):=by unfold eZ gE;refine bg (bn (bn (VJ (by simp only [sh]) aq)))
theorem vU (sA:ae)(view:Int):Sm (MV.i .i64) (mV (bK sA) (.i .i64 view)) (eN sA view):=by unfold mV eN;refine aL (mz (ax (ap (yH sA) λrA=>ax (VI aq))))
theorem CD (rA:ab):Sm (MV.i .i64) (oc (aG rA)) (lN rA):=by
 unfold oc lN;refine aL (ft (ap (EC rA.Proof) λbu=>fg (AW (aH ?_ ?_))))
 ·exact aq
 ·exact aq
theorem Uk (sA:ae):Sm (MV.i .i64) (yC (bK sA)) (uu sA):=by unfold yC uu;refine aL (mz (ap (pf sA (4607182418800017408,4607182418800017408)) λrA=>ax aq))
theorem EF (a:ae)(a1:List ab):Sm (λr=> .eu [.s r.1,.b r.2]) (pZ (bK a) (.list (a1.map aG))) (li a a1):=by
 unfold pZ li;refine aL (mz (bg (bn (ap (dM (λr=>[.i .i64 r.1,.s r.2.1,.i .i64 r.2.2]) (λr=>(2,[.i .i64 r.1,.s r.2])) (rfl) λst=> ?_) λw=> ?_))))
 ·unfold mQ;refine al (ax (al (eF (al (ax (aD (bh ?_ ?_)))))))
  ·refine bW (f:=aG) (rfl) λy=>aL (ft (ap (CD y) λrA=>ax (ap (f:=(λr=>(0,[.i .i64 r.1,.s r.2]))) ?_ λw1=> ?_)))
   ·refine bh ?_ ?_
    ·refine bW (f:=ak) (rfl) λy1=>aL (gQ aq)
    ·exact aq
   ·refine bO rfl (al (ax (al (eF (aD aq)))))
  ·exact aq
 ·refine bO rfl (al (ax (al (eF (aD (bn (ap (dM (λr=>[.list r.1,.i .i64 r.2]) (λr=>(4,[.list r])) (rfl) λcR=> ?_) λw2=> ?_)))))))
  ·unfold pK;refine q9<|bh ?_ ?_
   ·refine bW (f:=aG) (rfl) λy2=>aL (ft ?_);refine ap (f:=λr=>[.b r]) ?_ λw3=> ?_
    ·refine aH ?_ ?_
     ·exact aq
     ·exact aq
    ·refine al (aM (aD (ap (f:=(λr=>(0,[.list r]))) ?_ λw4=> ?_)))
     ·refine aH ?_ ?_
      ·exact aq
      ·exact aq
     ·refine bO rfl (al (bg (aD aq)))
   ·exact aq
  ·refine bO rfl (al (bg (aD (ap (abc (e:=id) (f:=(aaK (λr=>(6,[])) (λr=>(1,[.s r.1,.b r.2])))) (List.map_id _).symm ?_ λm29=> ?_) λw5=> ?_))))
   ·exact aq
   ·unfold pL;refine ait λkey n=>ap (Uk a) λbu=>ax<|bh ?_ ?_
    ·exact aq
    ·exact jM rfl
   ·rcases w5 with p5|p6
    ·refine oQ rfl (aD aq)
    ·refine oR rfl (bO rfl (al (eF (al (aM (aD aq))))))
theorem Nf (sA:ae):Sm (MV.i .i64) (xu (bK sA)) (tJ sA):=by unfold xu tJ;refine aL (mz (ap (pf sA (4611686018427387904,4611686018427387904)) λrA=>ax aq))
theorem Kt (a:ae)(a1:ab):Sm MV.b (uI (bK a) (aG a1)) (gG a a1):=by
 unfold uI gG;refine aL (mz (aL (ft ?_)));refine ap (f:=λr=>[.b r]) ?_ λw=> ?_
 ·refine ap (ra a) λrA=>aM<|aH ?_ ?_
  ·exact aq
  ·refine bh ?_ ?_
   ·exact aq
   ·refine ap (yH a) λbu=>ax<|bh ?_ ?_
    ·exact aq
    ·refine bh ?_ ?_
     ·exact aq
     ·exact aq
 ·refine al (aM (aD (aH ?_ ?_)))
  ·exact aq
  ·refine ap (f:=λr=>[.b r]) ?_ λw1=> ?_
   ·refine aH ?_ ?_
    ·refine aH ?_ ?_
     ·exact aq
     ·exact aq
    ·exact aq
   ·refine al (aM (aD (aH ?_ ?_)))
    ·exact aq
    ·refine ap (f:=λr=>[.b r]) ?_ λw2=> ?_
     ·refine aH ?_ ?_
      ·refine bh ?_ ?_
       ·exact aq
       ·refine bh ?_ ?_
        ·exact aq
        ·exact aq
      ·exact aq
     ·refine al (aM (aD (aH ?_ ?_)))
      ·exact aq
      ·refine ap (f:=λr=>[.b r]) ?_ λw3=> ?_
       ·refine bn<|bh ?_ ?_
        ·exact aq
        ·refine ap (AY a a1.Proof) λcg=>aM<|aH ?_ ?_
         ·refine ap (CD a1) λcM=>ax aq
         ·exact aq
       ·refine al (aM (aD aq))
theorem O8 (sA:ae)(view:Int)(lA:List ab):Sm MV.b (tp (bK sA) (.i .i64 view) (.list (lA.map aG))) (pN sA view lA):=by
 unfold tp pN;refine aL (mz (ax (bg ?_)));refine ap (f:=λr=>[.b r]) ?_ λw=> ?_
 ·refine ap (ra sA) λrA=>aM<|aH ?_ ?_
  ·exact aq
  ·refine bn<|ap (Nf sA) λbu=>ax aq
 ·refine al (aM (aD (aH ?_ ?_)))
  ·exact aq
  ·refine bn<|ap (dM (λr=>[.i .i64 r.1,.i .i64 r.2]) (aaK (λr=>(2,[])) (λr=>(1,[.b r]))) (rfl) λst=> ?_) λw1=> ?_
   ·unfold pM;refine mz<|bh ?_ ?_
    ·refine bW (f:=aG) (rfl) λy=>aL (ft ?_);refine ap (f:=λr=>[.b r]) ?_ λw2=> ?_
     ·refine ap (Kt sA y) λcg=>aM<|aH ?_ ?_
      ·exact aq
      ·refine aH ?_ ?_
       ·exact aq
       ·exact aq
     ·refine al (aM (aD (aH ?_ ?_)))
      ·exact aq
      ·exact aq
    ·exact aq
   ·rcases w1 with p1|p2
    ·refine oQ rfl (aD aq)
    ·refine oR rfl (bO rfl (al (aM (aD aq))))
theorem Ku (sA:ae)(view:Int)(lA:List ab)(value:List UInt8):Sm MV.b (qa (bK sA) (.i .i64 view) (.list (lA.map aG)) (.s value)) (cW sA view lA value):=by
 unfold qa cW;refine aL (mz (ax (bg (eF (ap (O8 sA view lA) λrA=>aM (aH ?_ ?_))))))
 ·exact aq
 ·refine ap (EF sA lA) λbu=>fg (al (eF (al (aM (aD ?_)))));refine ap (f:=λr=>[.b r]) ?_ λw=> ?_
  ·refine aH ?_ ?_
   ·exact aq
   ·exact aq
  ·refine al (aM (aD aq))
theorem FY (a:af)(view:Int)(value:List UInt8)(gJ:List ab):Sm (λr=> .eu [cq r.1,ak r.2.1,.b r.2.2]) (nC (cq a) (.i .i64 view) (.s value) (.list (gJ.map aG))) (dO a view value gJ):=by
 unfold nC dO;refine aL (fW (ax (eF (bg ?_))));refine ap (f:=λr=>[.b r]) ?_ λw=> ?_
 ·refine aH ?_ ?_
  ·exact aq
  ·refine aH ?_ ?_
   ·refine bh ?_ ?_
    ·exact aq
    ·exact aq
   ·exact aq
 ·refine al (aM (aD (aH ?_ ?_)))
  ·exact aq
  ·refine ap (f:=λr=>[.b r]) ?_ λw1=> ?_
   ·refine bh ?_ ?_
    ·refine bn aq
    ·exact aq
   ·refine al (aM (aD (ap (f:=(aaK (λr=>(1,[.i .i64 r.1,.i .i64 r.2.1,.i .i64 r.2.2.1,.i .i64 r.2.2.2.1,.b r.2.2.2.2.1,.i .i64 r.2.2.2.2.2.1,.s r.2.2.2.2.2.2.1,.list (r.2.2.2.2.2.2.2.1.map ak),.list (r.2.2.2.2.2.2.2.2.1.map ak),.i .i64 r.2.2.2.2.2.2.2.2.2.1,.i .i64 r.2.2.2.2.2.2.2.2.2.2.1,.s r.2.2.2.2.2.2.2.2.2.2.2.1,.b r.2.2.2.2.2.2.2.2.2.2.2.2])) (λr=>(0,[.i .i64 r.1,.i .i64 r.2.1,.i .i64 r.2.2.1,.i .i64 r.2.2.2.1,.b r.2.2.2.2.1,.i .i64 r.2.2.2.2.2.1,.s r.2.2.2.2.2.2.1,.list (r.2.2.2.2.2.2.2.1.map ak),.list (r.2.2.2.2.2.2.2.2.1.map ak),.i .i64 r.2.2.2.2.2.2.2.2.2.1,.i .i64 r.2.2.2.2.2.2.2.2.2.2.1,.s r.2.2.2.2.2.2.2.2.2.2.2])))) ?_ λw2=> ?_)))
    ·refine aH ?_ ?_
     ·exact aq
     ·refine ap (Ku a.S view gJ value) λrA=>aM<|aH ?_ ?_
      ·exact aq
      ·exact aq
    ·rcases w2 with p1|p2
     ·refine oQ rfl (al (ax (al (ax (al (ax (al (ax (al (aM (al (ax (al (eF (al (bg (al (bg (al (ax (AW aq)))))))))))))))))))))
     ·refine oR rfl (bO rfl (al (ax (al (ax (al (ax (al (ax (al (aM (al (ax (al (eF (al (bg (al (bg (gQ aq))))))))))))))))))))
theorem EG (x:Int):Sm MV.b (qc (.i .i64 x)) (nw x):=by unfold qc nw;refine ax aq
theorem AZ (x:Int)(y:Int):Sm (MV.i .i64) (mW (.i .i64 x) (.i .i64 y)) (kK x y):=by
 unfold mW kK;refine ax (ax (ap (EG x) λrA=>aM (ap (EG y) λbu=>aM (aH ?_ ?_))))
 ·refine aH ?_ ?_
  ·exact aq
  ·exact aq
 ·refine aH ?_ ?_
  ·exact aq
  ·refine bh ?_ ?_
   ·exact aq
   ·refine bh ?_ ?_
    ·exact aq
    ·exact aq
theorem RF (x:aa)(qz:Int):Sm (MV.i .i64) (vP (ak x) (.i .i64 qz)) (kY x qz):=by unfold vP kY;refine aL (gQ (ax (ap (AZ x.By qz) λrA=>ax aq)))
theorem od (x:List aa)(target:Int)(cmp:aa->Int->Option Int){QQ:Nat}{DJ:List MV}(RG:gv QQ=false)(gU: ∀(u0:aa)(u1:Int),Sm (MV.i .i64) (dk QQ ([ak u0,.i .i64 u1]++DJ)) (cmp u0 u1)):Sm (λr=> .eu [.i .i64 r.1,.b r.2]) (dC (.list (x.map ak)) (.i .i64 target) (.func QQ DJ)) (cz x target cmp):=by
 unfold dC cz;refine bg (ax (yl (bn (ap (dM (λr=>[.i .i64 r.1,.i .i64 r.2]) (λr=>(2,[.i .i64 r])) (rfl) λst=> ?_) λw=> ?_))))
 ·unfold iq;refine mz<|bh ?_ ?_
  ·refine eL<|bW (f:=ak) (rfl) λy=> ?_;refine aL (gQ (Aw (bO (by rw [RG];rfl) ?_)));refine ap (gU y target) λrA=>ax<|ap (f:=(λr=>(0,[.i .i64 r.1,.i .i64 r.2]))) ?_ λw1=> ?_
   ·refine bh ?_ ?_
    ·exact aq
    ·exact aq
   ·refine bO rfl (mz aq)
  ·exact aq
 ·refine bO rfl (al (ax (aD ?_)));refine ap (f:=λr=>[.i .i64 r.1,.b r.2]) ?_ λw2=> ?_
  ·refine bh ?_ ?_
   ·refine bW (f:=ak) (rfl) λy1=> ?_;refine aL (gQ (Aw (bO (by rw [RG];rfl) ?_)));refine ap (gU y1 target) λbu=>ax aq
   ·exact aq
  ·refine al (ax (al (aM (aD aq))))
theorem BR (t:aA)(a:aa):Sm (λr=> .eu [iP r.1,.b r.2]) (q0 (iP t) (ak a)) (jb t a):=by
 unfold q0 jb;refine aL (al (bg (aD (aL (gQ (ap (tO a) λrA=>aM (aH ?_ ?_)))))))
 ·exact aq
 ·refine ap (od t.L a.By kY (QQ:=155) (DJ:=[]) rfl (λu2 u3=>Sm.at (kj _ _) (RF u2 u3))) λbu=>fg (al (ax (al (aM (aD ?_)))));refine ap (f:=λr=>[.b r]) ?_ λw=> ?_
  ·refine aH ?_ ?_
   ·refine bW (f:=ak) (rfl) λy=>aL (gQ aq)
   ·exact aq
  ·refine al (aM (aD (aH ?_ ?_)))
   ·exact aq
   ·refine ap (yo (size:=3) (f:=ak) (λ_=>rfl) t.L) λcg=>qD<|ap (f:=(λr=>(0,[.list (r.map ak)]))) ?_ λw1=> ?_
    ·refine aH ?_ ?_
     ·refine bW (f:=ak) (rfl) λy1=>aL (gQ (jM (by simp)))
     ·refine ap (Q3 (f:=ak) cg bu.1 ([a]:List aa)) λcM=>qD aq
    ·refine bO rfl (al (bg (aD aq)))
theorem yK (a:aA)(a1:Int):Sm (λr=> .eu (v7 r)) (oV (iP a) (.i .i64 a1)) (lj a a1):=by
 unfold oV lj;refine aL (al (bg (aD (ax (bn (ap (dM (λr=>[.list r.1,.i .i64 r.2]) (λr=>(2,[.list r])) (rfl) λst=> ?_) λw=> ?_))))))
 ·unfold te;refine q9<|bh ?_ ?_
  ·refine bW (f:=ak) (rfl) λy=>aL (gQ (eL aq))
  ·exact aq
 ·refine bO rfl (al (bg (aD (bn (ap (dM (λr=>[.i .i64 r.1,.s r.2.1,.b r.2.2.1,.i .i64 r.2.2.2]) (λr=>(4,(v7 r))) (rfl) λcR=> ?_) λw1=> ?_)))))
  ·unfold pO;refine al (ax (al (eF (al (aM (al (ax (aD (bh ?_ ?_)))))))))
   ·refine bW (f:=ak) (rfl) λy1=>aL (gQ ?_);refine ap (f:=λr=>[.b r]) ?_ λw2=> ?_
    ·refine bh ?_ ?_
     ·refine bh ?_ ?_
      ·exact aq
      ·exact aq
     ·exact aq
    ·refine al (aM (aD (ap (f:=(λr=>(0,(v7 r)))) ?_ λw3=> ?_)))
     ·refine aH ?_ ?_
      ·exact aq
      ·exact aq
     ·refine bO rfl (AW aq)
   ·exact aq
  ·refine bO rfl (AW (aH ?_ ?_))
   ·exact aq
   ·exact aq
theorem Ul (sA:ae)(t:aA):Sm (λr=> .eu [.list (r.1.map ak),.b r.2]) (yD (bK sA) (iP t)) (uv sA t):=by
 unfold yD uv;refine aL (mz (aL (al (bg (aD (ap (yI sA) λrA=>ax (ap (yK t rA) λbu=>fg (AW (aH ?_ ?_)))))))))
 ·exact aq
 ·refine ap (EB t bu.1 bu.2.1) λcg=>bg<|ap (yI sA) λcM=>ax (bn (eL (jM (by first|(simp;done)|simp only [ak,bK,iP,GH,Jr,D9,IT,aaP,abC,aaU,abz,abE]))))
theorem LV (a:af)(a1:aa):Sm (λr=> .eu [cq r.1,.list (r.2.1.map ak),.b r.2.2]) (rF (cq a) (ak a1)) (lO a a1):=by
 unfold rF lO;refine aL (fW (aL (gQ ?_)));refine ap (f:=λr=>[.b r]) ?_ λw=> ?_
 ·refine ap (yH a.S) λrA=>ax<|bh ?_ ?_
  ·exact aq
  ·exact aq
 ·refine al (aM (aD (aH ?_ ?_)))
  ·exact aq
  ·refine ap (BR a.bT a1) λbu=>fg (al (aL (al (bg (aD (al (aM (aD (ap (Ul a.S bu.1) λcg=>fg (al (bg (al (aM (aD (ap (EC a.Proof) λcM=>fg (AW ?_))))))))))))))));refine ap (f:=λr=>[.b r]) ?_ λw1=> ?_
   ·refine ap (tO a1) λiR=>aM<|aH ?_ ?_
    ·exact aq
    ·refine aH ?_ ?_
     ·exact aq
     ·exact aq
   ·refine al (aM (aD (aH ?_ ?_)))
    ·exact aq
    ·exact aq
theorem XQ (sA:ae):Sm (MV.i .i64) (BO (bK sA)) (xg sA):=by unfold BO xg;refine aL (mz (ap (pf sA (4613937818241073152,4607182418800017408)) λrA=>ax aq))
theorem zH (lA:ar)(t:ar)(a:aa)(b6:Int):Sm (λr=> .ew ((λr=> .eu [.b r.1,.s r.2]) r.1) (gD r.2)) (gu (dB lA) (gD t) (ak a) (.i .i64 b6)) (ju lA t a b6):=by
 unfold gu ju;refine aL (dY (aL (gQ (ax (dY ?_)))));refine ap (f:=λr=>[.b r]) ?_ λw=> ?_
 ·refine aH ?_ ?_
  ·exact aq
  ·refine bh ?_ ?_
   ·exact aq
   ·refine ap (yH lA.S) λrA=>ax<|bh ?_ ?_
    ·exact aq
    ·refine ap (tO a) λbu=>aM aq
 ·refine al (aM (aD (aH ?_ ?_)))
  ·exact aq
  ·refine ap (BR t.aY a) λcg=>fg (al (aL (al (bg (aD (al (aM (aD (ap (yK cg.1 b6) λcM=>fg (AW aq))))))))))
theorem zI (lA:ar)(t:ar)(a:aa)(b6:Int):Sm (λr=> .ew ((λr=> .eu [.b r.1,.s r.2]) r.1) (gD r.2)) (gw (dB lA) (gD t) (ak a) (.i .i64 b6)) (jv lA t a b6):=by
 unfold gw jv;refine aL (dY (aL (gQ (ax (dY ?_)))));refine ap (f:=λr=>[.b r]) ?_ λw=> ?_
 ·refine aH ?_ ?_
  ·exact aq
  ·refine bh ?_ ?_
   ·exact aq
   ·refine ap (yH lA.S) λrA=>ax<|bh ?_ ?_
    ·exact aq
    ·refine ap (tO a) λbu=>aM aq
 ·refine al (aM (aD (aH ?_ ?_)))
  ·exact aq
  ·refine ap (BR t.aR a) λcg=>fg (al (aL (al (bg (aD (al (aM (aD (ap (yK cg.1 b6) λcM=>fg (AW aq))))))))))
theorem zJ (lA:ar)(t:ar)(a:aa)(b6:Int):Sm (λr=> .ew ((λr=> .eu [.b r.1,.s r.2]) r.1) (gD r.2)) (gx (dB lA) (gD t) (ak a) (.i .i64 b6)) (jx lA t a b6):=by
 unfold gx jx;refine aL (dY (aL (gQ (ax (dY ?_)))));refine ap (f:=λr=>[.b r]) ?_ λw=> ?_
 ·refine aH ?_ ?_
  ·exact aq
  ·refine bh ?_ ?_
   ·exact aq
   ·refine ap (yH lA.S) λrA=>ax<|bh ?_ ?_
    ·exact aq
    ·refine ap (tO a) λbu=>aM aq
 ·refine al (aM (aD (aH ?_ ?_)))
  ·exact aq
  ·refine ap (BR t.Told a) λcg=>fg (al (aL (al (bg (aD (al (aM (aD (ap (yK cg.1 b6) λcM=>fg (AW aq))))))))))
theorem FZ (lA:ar)(a:aa):Sm dB (nD (dB lA) (ak a)) (jc lA a):=by
 unfold nD jc;refine aL (dY (aL (gQ (ap (XQ lA.S) λrA=>ax (ap (zH lA lA a rA) λbu=>nY (dY (fg (al (aM (al (eF (aD (ap (f:=(λr=>(0,(v5 r)))) ?_ λw=> ?_)))))))))))))
 ·refine aH ?_ ?_
  ·exact aq
  ·exact aq
 ·refine bO rfl (dY aq)
theorem EH (lA:ar)(qz:Int)(p:List aa):Sm dB (mh (dB lA) (.i .i64 qz) (.list (p.map ak))) (jO lA qz p):=by
 unfold mh jO;refine aL (dY (ax (bg (ap (AY lA.S p) λrA=>aM (aH ?_ ?_)))))
 ·exact aq
 ·refine ap (EC p) λbu=>fg (AW (ap (yI lA.S) λcg=>ax (ap (zI lA lA (⟨qz,bu.1,bu.2.1⟩:aa) cg) λcM=>nY (dY (fg (al (aM (al (eF (aD (ap (f:=(λr=>(0,(v5 r)))) ?_ λw=> ?_)))))))))))
  ·refine aH ?_ ?_
   ·exact aq
   ·exact aq
  ·refine bO rfl (dY aq)
theorem HG (x:ab)(qz:Int):Sm (MV.i .i64) (oJ (aG x) (.i .i64 qz)) (fU x qz):=by unfold oJ fU;refine aL (ft (ax (ap (AZ x.By qz) λrA=>ax aq)))
theorem oe (x:List ab)(target:Int)(cmp:ab->Int->Option Int){QQ:Nat}{DJ:List MV}(RG:gv QQ=false)(gV: ∀(u0:ab)(u1:Int),Sm (MV.i .i64) (dm QQ ([aG u0,.i .i64 u1]++DJ)) (cmp u0 u1)):Sm (λr=> .eu [.i .i64 r.1,.b r.2]) (dD (.list (x.map aG)) (.i .i64 target) (.func QQ DJ)) (cA x target cmp):=by
 unfold dD cA;refine bg (ax (yl (bn (ap (dM (λr=>[.i .i64 r.1,.i .i64 r.2]) (λr=>(2,[.i .i64 r])) (rfl) λst=> ?_) λw=> ?_))))
 ·unfold ir;refine mz<|bh ?_ ?_
  ·refine eL<|bW (f:=aG) (rfl) λy=> ?_;refine aL (ft (Aw (bO (by rw [RG];rfl) ?_)));refine ap (gV y target) λrA=>ax<|ap (f:=(λr=>(0,[.i .i64 r.1,.i .i64 r.2]))) ?_ λw1=> ?_
   ·refine bh ?_ ?_
    ·exact aq
    ·exact aq
   ·refine bO rfl (mz aq)
  ·exact aq
 ·refine bO rfl (al (ax (aD ?_)));refine ap (f:=λr=>[.i .i64 r.1,.b r.2]) ?_ λw2=> ?_
  ·refine bh ?_ ?_
   ·refine bW (f:=aG) (rfl) λy1=> ?_;refine aL (ft (Aw (bO (by rw [RG];rfl) ?_)));refine ap (gV y1 target) λbu=>ax aq
   ·exact aq
  ·refine al (ax (al (aM (aD aq))))
theorem LW (n:ao)(sA:ae)(i:Int)(rA:ab):Sm (λr=> .ew ((λ_=> .eu []) r.1) (C5 r.2)) (rG (C5 n) (bK sA) (.i .i64 i) (aG rA)) (ke n sA i rA):=by
 unfold rG ke;refine aL (mz (ax (aL (ft (aJ (ap (oe n.dq rA.By fU (QQ:=105) (DJ:=[]) rfl (λu2 u3=>Sm.at (jk _ _) (HG u2 u3))) λbu=> ?_))))));refine fg (al (ax (al (aM (aD ?_)))));refine ap (f:=λr=>[.b r]) ?_ λw=> ?_
 ·refine aH ?_ ?_
  ·refine bh ?_ ?_
   ·refine ap (vU sA rA.fS) λcg=>ax<|bh ?_ ?_
    ·refine ap (Kt sA rA) λcM=>aM aq
    ·exact aq
   ·exact aq
  ·exact aq
 ·refine al (aM (aD (ap (f:=(λr=>(0,(v1 r)))) ?_ λw1=> ?_)))
  ·refine aH ?_ ?_
   ·refine Jq (D6 rfl rfl)<|ap (yo (size:=6) (f:=aG) (λ_=>rfl) n.dq) λiR=>qD<|ap (Q3 (f:=aG) iR bu.1 ([rA]:List ab)) λmc=>qD aq
   ·exact aq
  ·refine bO rfl (aJ aq)
theorem XR (sA:ae):Sm (MV.i .i64) (BP (bK sA)) (xh sA):=by unfold BP xh;refine aL (mz (ap (pf sA (4607182418800017408,0)) λrA=>ax aq))
theorem O9 (lA:ar)(qz:Int)(value:List UInt8):Sm dB (tq (dB lA) (.i .i64 qz) (.s value)) (pP lA qz value):=by
 unfold tq pP;refine aL (dY (ax (eF (ap (XR lA.S) λrA=>ax (ap (zJ lA lA (⟨qz,0,value⟩:aa) rA) λbu=>nY (dY (fg (al (aM (al (eF (aD (ap (f:=(λr=>(0,(v5 r)))) ?_ λw=> ?_)))))))))))))
 ·refine aH ?_ ?_
  ·exact aq
  ·exact aq
 ·refine bO rfl (dY aq)
theorem Um (a:ae)(a1:Int)(a2:ao)(a3:ai):Sm (λr=> .eu [bj r.1,.list (r.2.map aV)]) (yE (bK a) (.i .i64 a1) (bj a2) (aV a3)) (bq a a1 a2 a3):=by
 unfold yE bq;refine aL (mz (ax (aL (aJ (aL (da (ap (f:=(aaK (λr=>(2,(v0 r))) (λr=>(0,(v0 r))))) ?_ λw=> ?_)))))))
 ·refine bh ?_ ?_
  ·refine ap (vU a a3.View) λrA=>ax<|aH ?_ ?_
   ·exact aq
   ·refine ap (FY a2.A a3.View a3.Value a3.fC) λbu=>fg (al (aL (fW (al (aL (gQ (al (aM (aD (ap (f:=(λr=>(0,[.list (r.map aV)]))) ?_ λw1=> ?_))))))))))
    ·refine aH ?_ ?_
     ·refine rJ (([(⟨2,0,0,([]:List UInt8),([]:List ab),bu.2.1,([]:List aa),(⟨0,0,false,0,([]:List UInt8),([]:List aa)⟩:ab)⟩:ai)]:List ai).length) (eL aq)
     ·exact aq
    ·refine bO rfl (al (bg (aD aq)))
  ·refine ap (f:=(λr=>(0,(v0 r)))) ?_ λw2=> ?_
   ·refine bh ?_ ?_
    ·refine ap (LV a2.A a3.bM) λcg=>fg (al (aL (fW (al (bg (al (aM (aD (ap (f:=(λr=>(0,[.list (r.map aV)]))) ?_ λw3=> ?_)))))))))
     ·refine aH ?_ ?_
      ·refine rJ (([(⟨3,a1,0,([]:List UInt8),([]:List ab),(⟨0,0,([]:List UInt8)⟩:aa),cg.2.1,(⟨0,0,false,0,([]:List UInt8),([]:List aa)⟩:ab)⟩:ai)]:List ai).length) (eL aq)
      ·exact aq
     ·refine bO rfl (al (bg (aD (ap (FZ a2.L a3.bM) λcM=>aL (dY aq)))))
    ·refine ap (f:=(λr=>(0,(v1 r)))) ?_ λw4=> ?_
     ·refine bh ?_ ?_
      ·refine ap (EH a2.L a3.cN a3.Proof) λiR=>aL (dY aq)
      ·refine ap (f:=(λr=>(0,(v1 r)))) ?_ λw5=> ?_
       ·refine bh ?_ ?_
        ·refine ap (LW a2 a a1 a3.R) λmc=>nY (aJ aq)
        ·refine ap (f:=(λr=>(0,(v1 r)))) ?_ λw6=> ?_
         ·refine bh ?_ ?_
          ·refine ap (O9 a2.L a3.cN a3.Value) λsw=>aL (dY aq)
          ·exact aq
         ·refine bO rfl (aJ aq)
       ·refine bO rfl (aJ aq)
     ·refine bO rfl (aJ aq)
   ·refine bO rfl (lX aq)
 ·rcases w with p7|p8
  ·refine oQ rfl (lX ?_);refine ap (f:=λr=>[.b r]) ?_ λw7=> ?_
   ·refine aH ?_ ?_
    ·exact aq
    ·exact aq
   ·refine al (aM (aD (ap (f:=(λr=>(0,[.list (r.map aV)]))) ?_ λw8=> ?_)))
    ·refine aH ?_ ?_
     ·refine bn (rJ (([(⟨5,a1,0,p7.2.2.2.2.2.2.2.2.2.2.2.2.2.2.2.1,([]:List ab),(⟨0,0,([]:List UInt8)⟩:aa),([]:List aa),(⟨0,0,false,0,([]:List UInt8),([]:List aa)⟩:ab)⟩:ai)]:List ai).length) (eL ?_));exact jM (by simp [gd,df,aw,eh,aF,cY,v0,v1])
     ·exact aq
    ·refine bO rfl (al (bg (aD aq)))
  ·refine oR rfl (bO rfl (lX ?_));refine ap (f:=λr=>[.b r]) ?_ λw9=> ?_
   ·refine aH ?_ ?_
    ·exact aq
    ·exact aq
   ·refine al (aM (aD (ap (f:=(λr=>(0,[.list (r.map aV)]))) ?_ λw10=> ?_)))
    ·refine aH ?_ ?_
     ·refine bn (rJ (([(⟨5,a1,0,p8.2.2.2.2.2.2.2.2.2.2.2.2.2.2.2.1,([]:List ab),(⟨0,0,([]:List UInt8)⟩:aa),([]:List aa),(⟨0,0,false,0,([]:List UInt8),([]:List aa)⟩:ab)⟩:ai)]:List ai).length) (eL ?_));exact jM (by simp [gd,df,aw,eh,aF,cY,v0,v1])
     ·exact aq
    ·refine bO rfl (al (bg (aD aq)))
theorem LX (a:af):Sm aG (rH (cq a)) (wu a):=by unfold rH wu;refine aL (fW aq)
theorem Kv (a:af)(view:Int):Sm (λr=> .eu [cq r.1,aG r.2.1,.b r.2.2]) (qj (cq a) (.i .i64 view)) (mR a view):=by
 unfold qj mR;refine aL (fW (ax ?_));refine ap (f:=λr=>[.b r]) ?_ λw=> ?_
 ·refine bh ?_ ?_
  ·exact aq
  ·exact aq
 ·refine al (aM (aD (aH ?_ ?_)))
  ·exact aq
  ·refine ap (LX (⟨a.S,a.Me,view,a.Has,a.At,a.Value,a.Proof,(⟨([]:List aa)⟩:aA)⟩:af)) λrA=>aL (ft aq)
theorem RH (x_:ae)(x_1:Int)(n:ao)(view:Int):Sm (λr=> .eu [bj r.1,.list (r.2.map aV)]) (vR (bK x_) (.i .i64 x_1) (bj n) (.i .i64 view)) (pa x_ x_1 n view):=by
 unfold vR pa;refine aL (mz (ax (aL (aJ (ax (ap (Kv n.A view) λrA=>fg (al (aL (fW (al (aL (ft (al (aM (aD (aH ?_ ?_))))))))))))))))
 ·exact aq
 ·refine Jq (D6 rfl rfl) aq
theorem Un (a:ae)(a1:Int)(a2:ao)(a3:List UInt8):Sm (λr=> .eu [bj r.1,.list (r.2.map aV)]) (yF (bK a) (.i .i64 a1) (bj a2) (.s a3)) (cF a a1 a2 a3):=by
 unfold yF cF;refine aL (mz (ax (aL (aJ (eF (ap (Nf a) λrA=>ax ?_))))));refine ap (f:=λr=>[.b r]) ?_ λw=> ?_
 ·refine ap (vU a a2.A.View) λbu=>ax<|aH ?_ ?_
  ·exact aq
  ·exact aq
 ·refine al (aM (aD (aH ?_ ?_)))
  ·exact aq
  ·refine ap (f:=λr=>[.b r]) ?_ λw1=> ?_
   ·refine bh ?_ ?_
    ·refine bn aq
    ·exact aq
   ·refine al (aM (aD (aH ?_ ?_)))
    ·exact aq
    ·refine ap (f:=(λr=>(0,(v2 r)))) ?_ λw2=> ?_
     ·refine bh ?_ ?_
      ·refine bn (eL (ap (by simpa [aw,aF,v2] using yo (size:=6) (f:=aG) (λ_=>rfl) (abF (cV 0) (abG (cV rA) a2.dq))) λcg=>qD (ap (EF a cg) λcM=> ?_)));refine fg (al (eF (al (aM (aD (ap (f:=(λr=>(0,(v2 r)))) ?_ λw3=> ?_))))))
       ·refine aH ?_ ?_
        ·exact aq
        ·exact aq
       ·refine bO rfl (da aq)
      ·exact aq
     ·refine bO rfl (da (Jq (D6 rfl rfl) aq))
theorem yL (c:aj)(i:Int):Sm (λr=> .eu [.s r.1,.b r.2]) (nE (fT c) (.i .i64 i)) (fN c i):=by
 unfold nE fN;refine aL (bE (ax ?_));refine ap (f:=λr=>[.b r]) ?_ λw=> ?_
 ·refine ap (iV c i false) λrA=>aM<|aH ?_ ?_
  ·exact aq
  ·refine bW (f:=bj) (rfl) λy=>aL (aJ aq)
 ·refine al (aM (aD (aH ?_ ?_)))
  ·exact aq
  ·refine bW (f:=bj) (rfl) λy1=>aL (aJ aq)
theorem RI (i:Int)(c:Int)(c1:aj):Sm (λr=> .ew ((λ_=> .eu []) r.1) [.i .i64 r.2]) (sm (.i .i64 i) [.i .i64 c] (.rp [.i .i64 c1.S.F,.i .i64 c1.S.T,.list (c1.bY.map MV.b),.list (c1.Want.map MV.s),.list (c1.N.map bj),.list (c1.aC.map aV)])) (jQ i c c1):=by unfold sm jQ;refine ax (Q0 (bE (al (ax (aD (bW (f:=bj) (rfl) λy=>aL (aJ aq)))))))
theorem Kw (c:aj)(lA:List ai):Sm (λr=> .ew ((λ_=> .eu []) r.1) (cO r.2)) (qk (cO c) (.list (lA.map aV))) (ig c lA):=by
 unfold qk ig;refine bg (bE (bn (ap (dM (λr=>(v4 r)) (λr=>(2,(v6 r))) (rfl) λst=> ?_) λw=> ?_)))
 ·unfold fm;refine al (ax (bE (bh ?_ ?_)))
  ·refine bW (f:=aV) (rfl) λy=>aL (da (bn (ap (f:=(λr=>(0,(v6 r)))) ?_ λw1=> ?_)))
   ·refine bh ?_ ?_
    ·refine Jq (D6 rfl rfl)<|ap (uL st.2.2.2.2.2.2) λrA=> ?_;refine T4 (bO (yn (rfl:_=acE aV rA) λ_=>by simp only [MV.w,MV.wl,abJ]) (bn (rJ (([y]:List ai).length) (eL (jM (by simp [cO,aF,bk,v4,v6]))))))
    ·exact aq
   ·refine bO rfl (bE aq)
  ·exact aq
 ·refine bO rfl (bE aq)
theorem wI (c:aj)(i:Int)(n:ao)(said:List ai):Sm (λr=> .ew ((λ_=> .eu []) r.1) (cO r.2)) (lP (cO c) (.i .i64 i) (bj n) (.list (said.map aV))) (fH c i n said):=by unfold lP fH;refine ax (aL (aJ (bg (bE (bW (f:=bj) (rfl) λy=>aL (aJ (ap (by simpa [cO,aw,bk] using Kw (⟨c.S,c.bY,c.Want,c.N.set (cV i) n,c.aC⟩:aj) said) λrA=> ?_)))))));refine nY (bE aq)
theorem vV (c:aj)(i:Int)(m:ai):Sm (λr=> .ew ((λ_=> .eu []) r.1) (cO r.2)) (jV (cO c) (.i .i64 i) (aV m)) (cD c i m):=by unfold jV cD;refine ax (aL (da (bE (bW (f:=bj) (rfl) λy=>aL (aJ (ap (Um c.S i y m) λrA=>fg (al (aL (aJ (al (bg (aD (ap (wI c i rA.1 rA.2) λbu=> ?_)))))))))))));refine nY (bE aq)
theorem zl (c:aj)(i:Int)(view:Int):Sm (λr=> .ew ((λ_=> .eu []) r.1) (cO r.2)) (lD (cO c) (.i .i64 i) (.i .i64 view)) (dx c i view):=by unfold lD dx;refine ax (ax (bE (bW (f:=bj) (rfl) λy=>aL (aJ (ap (RH c.S i y view) λrA=>fg (al (aL (aJ (al (bg (aD (ap (wI c i rA.1 rA.2) λbu=> ?_))))))))))));refine nY (bE aq)
theorem A0 (c:aj)(i:Int):Sm (λr=> .ew ((λ_=> .eu []) r.1) (cO r.2)) (mZ (cO c) (.i .i64 i)) (cX c i):=by unfold mZ cX;refine ax (bE (bW (f:=bj) (rfl) λy=>aL (aJ (bW (f:=MV.s) (rfl) λy1=>eF (ap (Un c.S i y y1) λrA=>fg (al (aL (aJ (al (bg (aD (ap (wI c i rA.1 rA.2) λbu=> ?_))))))))))));refine nY (bE aq)
theorem LY (c:aj)(lA:List ai):Sm (λr=> .ew ((λ_=> .eu []) r.1) (cO r.2)) (rI (cO c) (.list (lA.map aV))) (n6 c lA):=by
 unfold rI n6;refine bg (bE (bn (ap (dM (λr=>(v4 r)) (λr=>(2,(v6 r))) (rfl) λst=> ?_) λw=> ?_)))
 ·unfold zg;refine al (ax (bE (bh ?_ ?_)))
  ·refine bW (f:=aV) (rfl) λy=>aL (da (bn (ap (f:=(λr=>(0,(v6 r)))) ?_ λw1=> ?_)))
   ·refine bh ?_ ?_
    ·refine Jq (D6 rfl rfl)<|ap (uL st.2.2.2.2.2.2) λrA=> ?_;refine T4 (bO (yn (rfl:_=acE aV rA) λ_=>by simp only [MV.w,MV.wl,abJ]) (bn (rJ (([y]:List ai).length) (eL (jM (by simp [cO,aF,bk,v4,v6]))))))
    ·exact aq
   ·refine bO rfl (bE aq)
  ·exact aq
 ·refine bO rfl (bE aq)
theorem BS (a:aj)(a1:dv):Sm fT (q8 (fT a) (mM a1)) (eB a a1):=by
 unfold q8 eB;refine aL (bE (aL (na (bh ?_ ?_))))
 ·refine ap (Uj a a1.M) λrA=>aM<|ap (f:=(λr=>(0,(v6 r)))) ?_ λw=> ?_
  ·refine aH ?_ ?_
   ·refine ap (LY a ([a1.M]:List ai)) λbu=>nY (bE aq)
   ·exact aq
  ·refine bO rfl (bE aq)
 ·refine ap (iV a a1.I false) λcg=>aM<|aH ?_ ?_
  ·exact aq
  ·refine ap (yo (size:=18) (f:=bj) (λ_=>by simp only [MV.w,MV.wl,abJ]) a.N) λcM=>qD<|ap (f:=(λr=>(0,(v6 r)))) ?_ λw1=> ?_
   ·refine bh ?_ ?_
    ·refine ap (f:=λr=>[.b r]) ?_ λw2=> ?_
     ·refine bh ?_ ?_
      ·refine bn aq
      ·exact aq
     ·refine al (aM (aD (ap (f:=(λr=>(0,(v6 r)))) ?_ λw3=> ?_)))
      ·refine aH ?_ ?_
       ·refine bW (f:=aV) (rfl) λy=>aL (da (ap (vV (⟨a.S,a.bY,a.Want,cM,a.aC⟩:aj) a1.I y) λiR=>nY (bE aq)))
       ·exact aq
      ·refine bO rfl (bE aq)
    ·refine ap (f:=(λr=>(0,(v6 r)))) ?_ λw4=> ?_
     ·refine bh ?_ ?_
      ·refine bW (f:=bj) (rfl) λy1=>aL (aJ (ap (zl (⟨a.S,a.bY,a.Want,cM,a.aC⟩:aj) a1.I (No .i64 (y1.A.View+1))) λmc=>nY (bE aq)))
      ·refine ap (f:=(λr=>(0,(v6 r)))) ?_ λw5=> ?_
       ·refine bh ?_ ?_
        ·refine ap (A0 (⟨a.S,a.bY,a.Want,cM,a.aC⟩:aj) a1.I) λsw=>nY (bE aq)
        ·refine ap (f:=(λr=>(0,(v6 r)))) ?_ λw6=> ?_
         ·refine bh ?_ ?_
          ·refine bW (f:=bj) (rfl) λy2=>aL (aJ (ap (O6 a.S a1.I y2) λDv=>aL (aJ (bW (f:=bj) (rfl) λy3=>aL (aJ (jM (by simp [aw,aF,bk,v6])))))))
          ·exact aq
         ·refine bO rfl (bE aq)
       ·refine bO rfl (bE aq)
     ·refine bO rfl (bE aq)
   ·refine bO rfl (bE aq)
theorem F1:Sm MV.b (tL) (qV):=by
 unfold tL qV;refine eL<|ap (by simpa [bk,pQ,v3,v6] using RB (⟨1,0⟩:ae) (acT (cV 4) false) ([([97]:List UInt8),([98]:List UInt8),([99]:List UInt8),([100]:List UInt8)]:List (List UInt8))) λrA=>fg (al (aL (bE (al (ax (aD ?_))))));refine ap (BS rA.1 (⟨2,0,0,(⟨0,0,0,([]:List UInt8),([]:List ab),(⟨0,0,([]:List UInt8)⟩:aa),([]:List aa),(⟨0,0,false,0,([]:List UInt8),([]:List aa)⟩:ab)⟩:ai)⟩:dv)) λbu=> ?_;refine aL (bE (ap (dM (λr=>(v3 r)) (λr=>(2,(v6 r))) (rfl) λst=> ?_) λw=> ?_))
 ·unfold vI;refine BQ<|bh ?_ ?_
  ·refine ap (BS (⟨(⟨st.1,st.2.1⟩:ae),st.2.2.1,st.2.2.2.1,st.2.2.2.2.1,st.2.2.2.2.2.1⟩:aj) (⟨0,st.2.2.2.2.2.2,0,(⟨0,0,0,([]:List UInt8),([]:List ab),(⟨0,0,([]:List UInt8)⟩:aa),([]:List aa),(⟨0,0,false,0,([]:List UInt8),([]:List aa)⟩:ab)⟩:ai)⟩:dv)) λcg=> ?_;refine aL (bE aq)
  ·exact aq
 ·refine bO rfl (bE (ap (dM (λr=>(v3 r)) (λr=>(4,(v6 r))) (rfl) λcR=> ?_) λw1=> ?_))
  ·unfold vJ;refine BQ<|bh ?_ ?_
   ·refine ap (BS (⟨(⟨cR.1,cR.2.1⟩:ae),cR.2.2.1,cR.2.2.2.1,cR.2.2.2.2.1,cR.2.2.2.2.2.1⟩:aj) (⟨0,2,cR.2.2.2.2.2.2,(⟨0,0,0,([]:List UInt8),([]:List ab),(⟨0,0,([]:List UInt8)⟩:aa),([]:List aa),(⟨0,0,false,0,([]:List UInt8),([]:List aa)⟩:ab)⟩:ai)⟩:dv)) λcM=> ?_;refine aL (bE aq)
   ·exact aq
  ·refine bO rfl (bE (ap (yL (⟨(⟨w1.1,w1.2.1⟩:ae),w1.2.2.1,w1.2.2.2.1,w1.2.2.2.2.1,w1.2.2.2.2.2⟩:aj) 2) λiR=>fg (al (eF (al (aM (aD (ap (yL (⟨(⟨w1.1,w1.2.1⟩:ae),w1.2.2.1,w1.2.2.2.1,w1.2.2.2.2.1,w1.2.2.2.2.2⟩:aj) 1) λmc=> ?_))))))));refine fg (al (eF (al (aM (aD ?_)))));refine ap (f:=λr=>[.b r]) ?_ λw2=> ?_
   ·refine bh ?_ ?_
    ·refine aH ?_ ?_
     ·refine bh ?_ ?_
      ·exact aq
      ·exact aq
     ·exact aq
    ·exact aq
   ·refine al (aM (aD aq))
def xK (x:aj):CS:=⟨x.S.F,x.S.T,x.bY.map MV.b,x.Want.map MV.s,x.N.map bj,x.aC.map aV⟩
theorem ai6 (x:aj):TR (cO x)=some (xK x):=rfl
theorem ai7 {x:Option MV}{y:Option (Unit×aj)}(h:Sm (λr=> .ew ((λ_=> .eu []) r.1) (cO r.2)) x y):Sm xK (OJ x) (bd y λr=>some r.2):=by unfold Sm at *;subst h;cases y<;>rfl
theorem agN (l:List Bool):B5 (l.map MV.b)=if l.length<2^32 then some l else none:=by unfold B5;rw [QP]
theorem agO (c:aj)(v:Int):OL cG kM.k (xK c) v=eN c.S v:=by have h:=vU c.S v;unfold OL;rw [show cG kM.k.ld [.agg [.i .i64 (xK c).F,.i .i64 (xK c).T],.i .i64 v]=mV (bK c.S) (.i .i64 v) from by kernel_rfl];unfold Sm at h;rw [h];cases eN c.S v<;>rfl
theorem ai8 (c:aj)(v:Int):xe cG kM.k (xK c) v=kg c v:=by
 unfold xe kg;rw [agO];cases eN c.S v with
 |none=>rfl
 |some l=>have h:=iV c l false;unfold Sm at h;show (match cG kM.k.is [.agg (xK c).ls,.i .i64 l,.b false] with|some (.b b)=>_|_=>none)=_;rw [show cG kM.k.is [.agg (xK c).ls,.i .i64 l,.b false]=fp (fT c) (.i .i64 l) (.b false) from by kernel_rfl,h];rw [au];cases dF c l false<;>rfl
theorem ab0 {S S':Type}(f:S'->S){step:Nat->S->Option S}{ab1:Nat->S'->Option S'}(h: ∀i s,Sm f (step i (f s)) (ab1 i s)): ∀(l:List Bool) (i:Nat) (s:S'),Sm f (iO step l i (f s)) (iO ab1 l i s):=by
 intro l;induction l with
 |nil=>intro i s;rfl
 |cons b r ih=>
  intro i s;simp only [iO];cases b with
  |true=>exact ih (i+1) s
  |false=>
   have h1:=h i s;unfold Sm at h1;simp only [Bool.false_eq_true,if_false];rw [h1];cases ab1 i s with
   |none=>rfl
   |some s2=>exact ih (i+1) s2
theorem ai9 (c:aj)(i:Nat)(v:Int):Ji cG kM.k (xK c) i v=bd (jQ (i:Int) v c) λr=>some r.2:=by have h:=RI (i:Int) v c;unfold Ji;rw [show cG kM.k.f1 [.i .i64 i,.cell (.func 0 [.i .i64 v]),.rp (xK c).ls]=sm (.i .i64 i) [.i .i64 v] (.rp [.i .i64 c.S.F,.i .i64 c.S.T,.list (c.bY.map MV.b),.list (c.Want.map MV.s),.list (c.N.map bj),.list (c.aC.map aV)]) from by kernel_rfl];unfold Sm at h;rw [h];cases jQ (i:Int) v c<;>rfl
theorem ae0 (v:Int)(i:Nat)(c:aj):Sm xK (Jj cG kM.k v i (xK c)) (bd (dx c (i:Int) v) λr=>some r.2):=by unfold Jj;rw [show cG kM.k.en [.cell (.func 0 (xK c).ls),.i .i64 i,.i .i64 v]=lD (cO c) (.i .i64 i) (.i .i64 v) from by kernel_rfl];exact ai7 (zl c i v)
theorem ae1 (m:ai)(i:Nat)(c:aj):Sm xK (Fz cG kM.k (aV m) i (xK c)) (bd (cD c (i:Int) m) λr=>some r.2):=by unfold Fz;rw [show cG kM.k.de [.cell (.func 0 (xK c).ls),.i .i64 i,aV m]=jV (cO c) (.i .i64 i) (aV m) from by kernel_rfl];exact ai7 (vV c i m)
theorem aja (c:aj)(l:Int):Sm xK (OJ (cG kM.k.le [.cell (.func 0 (xK c).ls),.i .i64 l])) (bd (cX c l) λr=>some r.2):=by rw [show cG kM.k.le [.cell (.func 0 (xK c).ls),.i .i64 l]=mZ (cO c) (.i .i64 l) from by kernel_rfl];exact ai7 (A0 c l)
theorem ajb (v:Int)(p:Int×aj):Sm (Sum.map (λp:Int×aj=>(p.1,xK p.2)) xK) (Jk cG kM.k v (p.1,xK p.2)) (n7 v p):=by
 obtain ⟨n,c⟩:=p;unfold Jk n7;dsimp only;rw [show (xK c).pl.length=c.aC.length from sh _];by_cases hn:n<(c.aC.length:Int);rotate_left
 ·rw [if_neg hn,if_neg hn];rfl
 rw [if_pos hn,if_pos hn];rw [show B5 (xK c).bl=_ from agN c.bY];unfold Sz ix;rw [show (xK c).pl=c.aC.map aV from rfl];by_cases h0:0<=n;rotate_left
 ·rw [if_neg h0,if_neg h0];rfl
 rw [if_pos h0,if_pos h0,List.getElem?_map];cases hm:c.aC[n.toNat]? with
 |none=>rfl
 |some m=>
 simp only [acv];by_cases hb:c.bY.length<2^32;rotate_left
 ·rw [if_neg hb,if_neg hb];rfl
 rw [if_pos hb,if_pos hb];have hw:(aV m).w=kM.k.sz:=by simp only [MV.w,MV.wl,abJ];rfl
 have hg:(Wg (aV m)&&Nat.beq (aV m).w kM.k.sz)=true:=by rw [hw];rfl
 simp only [hg,cond_true];have h1:=ab0 xK (λi c=>ae1 m i c) c.bY 0 c;unfold Sm at h1;rw [h1];cases iO (λi c=>bd (cD c (i:Int) m) λr=>some r.2) c.bY 0 c with
 |none=>rfl
 |some c1=>
 simp only [acv,au];rw [agO];cases eN c1.S v with
 |none=>rfl
 |some l=>
 have h2:=aja c1 l;unfold Sm at h2;dsimp only;rw [h2,au];cases cX c1 l<;>rfl
theorem XS (a:aj):Sm fT (FW (fT a)) (qW a):=by
 have hc:FA cG kM.k (a.N.map bj)=(qR 256 a.N).map λl=>l.map bj:=by have h:=yo (size:=18) (bytes:=256) (f:=bj) (λ_=>by simp only [MV.w,MV.wl,abJ]) a.N;unfold FA;rw [show cG kM.k.cl [.list (a.N.map bj)]=jD 18 256 [.list (a.N.map bj)] from by kernel_rfl];unfold Sm at h;rw [h];cases qR 256 a.N<;>rfl
 have hs:(MN cG kM.k (xK a))=(qW a).map xK:=by
  unfold MN qW;rw [show FA cG kM.k (xK a).nl=_ from hc,show B5 (xK a).bl=_ from agN a.bY];cases qR 256 a.N with
  |none=>rfl
  |some nl=>
  simp only [acv,au];by_cases hb:a.bY.length<2^32;rotate_left
  ·rw [if_neg hb,if_neg hb];rfl
  rw [if_pos hb,if_pos hb];have e0:(⟨(xK a).F,(xK a).T,(xK a).bl,(xK a).wl,nl.map bj,[]⟩:CS)=xK (⟨a.S,a.bY,a.Want,nl,[]⟩:aj):=rfl;dsimp only;rw [e0];rw [show Ji cG kM.k (xK (⟨a.S,a.bY,a.Want,nl,[]⟩:aj))=λ(i:Nat) v=>bd (jQ (i:Int) v (⟨a.S,a.bY,a.Want,nl,[]⟩:aj)) λr=>some r.2 from funext λi=>funext λv=>ai9 _ i v];cases iO (λ(i:Nat) v=>bd (jQ (i:Int) v (⟨a.S,a.bY,a.Want,nl,[]⟩:aj)) λr=>some r.2) a.bY 0 (0:Int) with
  |none=>rfl
  |some v1=>
  rw [au,au];rw [show xe cG kM.k (xK (⟨a.S,a.bY,a.Want,nl,[]⟩:aj))=kg (⟨a.S,a.bY,a.Want,nl,[]⟩:aj) from funext λv=>ai8 _ v];cases Loop (kg (⟨a.S,a.bY,a.Want,nl,[]⟩:aj)) v1 with
  |none=>rfl
  |some v=>
  rw [au,au];by_cases hv:100000<v
  ·rw [if_pos hv,if_pos hv];rfl
  rw [if_neg hv,if_neg hv];have h1:=ab0 xK (λi c=>ae0 v i c) a.bY 0 (⟨a.S,a.bY,a.Want,nl,[]⟩:aj);unfold Sm at h1;rw [h1];cases iO (λ(i:Nat) c=>bd (dx c (i:Int) v) λr=>some r.2) a.bY 0 (⟨a.S,a.bY,a.Want,nl,[]⟩:aj) with
  |none=>rfl
  |some c=>
  rw [acv,au,au];exact dM (λp:Int×aj=>(p.1,xK p.2)) xK (s0:=((0:Int),c)) rfl λp=>ajb v p
 show (match TR (cO a) with|some s=>(match MN cG kM.k s with|some s=>some (MV.agg s.ls)|none=>none)|none=>none)=_;rw [ai6];dsimp only;rw [hs];cases qW a<;>rfl
theorem Pa (a:mb)(a1:List dv):Sm MV.b (yG (C3 a) (.list (a1.map mM))) (th a a1):=by
 unfold yG th;refine aL (al (ax (al (ax (al (bg (al (bg (aD (bg (ap (XP a a1) λrA=>aM (aH ?_ ?_))))))))))))
 ·refine ap (F1) λbu=>aM aq
 ·refine ap (RB a.S a.bY a.Want) λcg=>fg (al (aL (bE (al (ax (aD (aH ?_ ?_)))))))
  ·refine ap (F1) λcM=>aM aq
  ·refine ap (dM (λr=>(v3 r)) (λr=>(2,(v6 r))) (rfl) λst=> ?_) λw=> ?_
   ·unfold uw;refine BQ (bn (bh ?_ ?_))
    ·refine bW (f:=mM) (rfl) λy=>aL (na (ap (BS (⟨(⟨st.1,st.2.1⟩:ae),st.2.2.1,st.2.2.2.1,st.2.2.2.2.1,st.2.2.2.2.2.1⟩:aj) y) λiR=>aL (bE aq)))
    ·exact aq
   ·refine bO rfl (bE (ap (XS (⟨(⟨w.1,w.2.1⟩:ae),w.2.2.1,w.2.2.2.1,w.2.2.2.2.1,w.2.2.2.2.2⟩:aj)) λmc=>aL (bE (ap (dM (λr=>[.s r.1,.b r.2.1,.i .i64 r.2.2]) (aaK (λr=>(4,[.b r])) (λr=>(1,[.b r]))) (rfl) λcR=> ?_) λw1=> ?_))))
    ·unfold ux;refine al (eF (al (aM (al (ax (aD (bn (bh ?_ ?_))))))))
     ·refine ap (yL mc cR.2.2) λsw=>fg (al (eF (al (aM (aD (bW (f:=MV.b) (rfl) λy1=>aM (aH ?_ ?_)))))))
      ·exact aq
      ·refine ap (f:=λr=>[.b r]) ?_ λw2=> ?_
       ·refine aH ?_ ?_
        ·exact aq
        ·refine aH ?_ ?_
         ·exact aq
         ·exact aq
       ·refine al (aM (aD (aH ?_ ?_)))
        ·exact aq
        ·exact aq
     ·exact aq
    ·rcases w1 with p2|p3
     ·refine oQ rfl (al (aM (aD ?_)));refine ap (f:=λr=>[.b r]) ?_ λw3=> ?_
      ·refine ap (F1) λDv=>aM<|aH ?_ ?_
       ·exact aq
       ·exact aq
      ·refine al (aM (aD aq))
     ·refine oR rfl (bO rfl (al (aM (aD aq))))
end Dn.S
