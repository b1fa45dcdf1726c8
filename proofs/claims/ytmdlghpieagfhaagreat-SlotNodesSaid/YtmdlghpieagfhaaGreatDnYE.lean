import Derived.Test.YtmdlghpieagfhaaGreatDnYD
/-
  Typed and plain functions agree. Conditions: none.
-/
set_option linter.unusedVariables false
set_option linter.unusedSimpArgs false
open Go.IntKind renaming wrap→fj,bits→aaP
open Int renaming toNat→sh
open List renaming map_append→AI,length_map→AT,map_cons→IN,map_take→IS,map_drop→IT,length_append→No,length_cons→OF,map_nil→aav,map_set→aay,length_nil→aaH,length_take→aaI,length_drop→aaJ,length_set→aaK,map_replicate→aaL,drop→aaM,take→aaN,map→aaO,replicate→aaQ
open Sum renaming elim→BY
open Go Dn
set_option maxRecDepth 100000
namespace Dn.S
@[reducible] def v0 (r : Int × Int × Int × Int × Bool × Int × (List UInt8) × (List aa) × (List aa) × Int × Int × (List aa) × (List aa) × (List aa) × Bool × (List UInt8) × (List ae) × Int × Int × Int × Int × Int × Bool × Int × (List UInt8) × (List aa) × (List aa) × Int × Int × (List aa) × (List aa) × (List aa) × Bool × (List UInt8) × (List ae) × Int × (List aw) × (List bF)) : List MV := [.i .i64 r.1, .i .i64 r.2.1, .i .i64 r.2.2.1, .i .i64 r.2.2.2.1, .b r.2.2.2.2.1, .i .i64 r.2.2.2.2.2.1, .s r.2.2.2.2.2.2.1, .list (r.2.2.2.2.2.2.2.1.map ab), .list (r.2.2.2.2.2.2.2.2.1.map ab), .i .i64 r.2.2.2.2.2.2.2.2.2.1, .i .i64 r.2.2.2.2.2.2.2.2.2.2.1, .list (r.2.2.2.2.2.2.2.2.2.2.2.1.map ab), .list (r.2.2.2.2.2.2.2.2.2.2.2.2.1.map ab), .list (r.2.2.2.2.2.2.2.2.2.2.2.2.2.1.map ab), .b r.2.2.2.2.2.2.2.2.2.2.2.2.2.2.1, .s r.2.2.2.2.2.2.2.2.2.2.2.2.2.2.2.1, .list (r.2.2.2.2.2.2.2.2.2.2.2.2.2.2.2.2.1.map av), .i .i64 r.2.2.2.2.2.2.2.2.2.2.2.2.2.2.2.2.2.1, .i .i64 r.2.2.2.2.2.2.2.2.2.2.2.2.2.2.2.2.2.2.1, .i .i64 r.2.2.2.2.2.2.2.2.2.2.2.2.2.2.2.2.2.2.2.1, .i .i64 r.2.2.2.2.2.2.2.2.2.2.2.2.2.2.2.2.2.2.2.2.1, .i .i64 r.2.2.2.2.2.2.2.2.2.2.2.2.2.2.2.2.2.2.2.2.2.1, .b r.2.2.2.2.2.2.2.2.2.2.2.2.2.2.2.2.2.2.2.2.2.2.1, .i .i64 r.2.2.2.2.2.2.2.2.2.2.2.2.2.2.2.2.2.2.2.2.2.2.2.1, .s r.2.2.2.2.2.2.2.2.2.2.2.2.2.2.2.2.2.2.2.2.2.2.2.2.1, .list (r.2.2.2.2.2.2.2.2.2.2.2.2.2.2.2.2.2.2.2.2.2.2.2.2.2.1.map ab), .list (r.2.2.2.2.2.2.2.2.2.2.2.2.2.2.2.2.2.2.2.2.2.2.2.2.2.2.1.map ab), .i .i64 r.2.2.2.2.2.2.2.2.2.2.2.2.2.2.2.2.2.2.2.2.2.2.2.2.2.2.2.1, .i .i64 r.2.2.2.2.2.2.2.2.2.2.2.2.2.2.2.2.2.2.2.2.2.2.2.2.2.2.2.2.1, .list (r.2.2.2.2.2.2.2.2.2.2.2.2.2.2.2.2.2.2.2.2.2.2.2.2.2.2.2.2.2.1.map ab), .list (r.2.2.2.2.2.2.2.2.2.2.2.2.2.2.2.2.2.2.2.2.2.2.2.2.2.2.2.2.2.2.1.map ab), .list (r.2.2.2.2.2.2.2.2.2.2.2.2.2.2.2.2.2.2.2.2.2.2.2.2.2.2.2.2.2.2.2.1.map ab), .b r.2.2.2.2.2.2.2.2.2.2.2.2.2.2.2.2.2.2.2.2.2.2.2.2.2.2.2.2.2.2.2.2.1, .s r.2.2.2.2.2.2.2.2.2.2.2.2.2.2.2.2.2.2.2.2.2.2.2.2.2.2.2.2.2.2.2.2.2.1, .list (r.2.2.2.2.2.2.2.2.2.2.2.2.2.2.2.2.2.2.2.2.2.2.2.2.2.2.2.2.2.2.2.2.2.2.1.map av), .i .i64 r.2.2.2.2.2.2.2.2.2.2.2.2.2.2.2.2.2.2.2.2.2.2.2.2.2.2.2.2.2.2.2.2.2.2.2.1, .list (r.2.2.2.2.2.2.2.2.2.2.2.2.2.2.2.2.2.2.2.2.2.2.2.2.2.2.2.2.2.2.2.2.2.2.2.2.1.map bw), .list (r.2.2.2.2.2.2.2.2.2.2.2.2.2.2.2.2.2.2.2.2.2.2.2.2.2.2.2.2.2.2.2.2.2.2.2.2.2.map dY)]
@[reducible] def v1 (r : Int × Int × Int × Int × Bool × Int × (List UInt8) × (List aa) × (List aa) × Int × Int × (List aa) × (List aa) × (List aa) × Bool × (List UInt8) × (List ae) × Int × (List aw)) : List MV := [.i .i64 r.1, .i .i64 r.2.1, .i .i64 r.2.2.1, .i .i64 r.2.2.2.1, .b r.2.2.2.2.1, .i .i64 r.2.2.2.2.2.1, .s r.2.2.2.2.2.2.1, .list (r.2.2.2.2.2.2.2.1.map ab), .list (r.2.2.2.2.2.2.2.2.1.map ab), .i .i64 r.2.2.2.2.2.2.2.2.2.1, .i .i64 r.2.2.2.2.2.2.2.2.2.2.1, .list (r.2.2.2.2.2.2.2.2.2.2.2.1.map ab), .list (r.2.2.2.2.2.2.2.2.2.2.2.2.1.map ab), .list (r.2.2.2.2.2.2.2.2.2.2.2.2.2.1.map ab), .b r.2.2.2.2.2.2.2.2.2.2.2.2.2.2.1, .s r.2.2.2.2.2.2.2.2.2.2.2.2.2.2.2.1, .list (r.2.2.2.2.2.2.2.2.2.2.2.2.2.2.2.2.1.map av), .i .i64 r.2.2.2.2.2.2.2.2.2.2.2.2.2.2.2.2.2.1, .list (r.2.2.2.2.2.2.2.2.2.2.2.2.2.2.2.2.2.2.map bw)]
@[reducible] def v2 (r : Int × Int × Int × Int × Bool × Int × (List UInt8) × (List aa) × (List aa) × Int × Int × (List aa) × (List aa) × (List aa) × Bool × (List UInt8) × (List ae) × Int × (List bF)) : List MV := [.i .i64 r.1, .i .i64 r.2.1, .i .i64 r.2.2.1, .i .i64 r.2.2.2.1, .b r.2.2.2.2.1, .i .i64 r.2.2.2.2.2.1, .s r.2.2.2.2.2.2.1, .list (r.2.2.2.2.2.2.2.1.map ab), .list (r.2.2.2.2.2.2.2.2.1.map ab), .i .i64 r.2.2.2.2.2.2.2.2.2.1, .i .i64 r.2.2.2.2.2.2.2.2.2.2.1, .list (r.2.2.2.2.2.2.2.2.2.2.2.1.map ab), .list (r.2.2.2.2.2.2.2.2.2.2.2.2.1.map ab), .list (r.2.2.2.2.2.2.2.2.2.2.2.2.2.1.map ab), .b r.2.2.2.2.2.2.2.2.2.2.2.2.2.2.1, .s r.2.2.2.2.2.2.2.2.2.2.2.2.2.2.2.1, .list (r.2.2.2.2.2.2.2.2.2.2.2.2.2.2.2.2.1.map av), .i .i64 r.2.2.2.2.2.2.2.2.2.2.2.2.2.2.2.2.2.1, .list (r.2.2.2.2.2.2.2.2.2.2.2.2.2.2.2.2.2.2.map dY)]
@[reducible] def v3 (r : Int × Int × Int × Int × Bool × Int × (List UInt8) × (List aa) × (List aa) × Int × Int × (List aa) × (List aa) × (List aa) × Bool × (List UInt8) × (List ae) × Int) : List MV := [.i .i64 r.1, .i .i64 r.2.1, .i .i64 r.2.2.1, .i .i64 r.2.2.2.1, .b r.2.2.2.2.1, .i .i64 r.2.2.2.2.2.1, .s r.2.2.2.2.2.2.1, .list (r.2.2.2.2.2.2.2.1.map ab), .list (r.2.2.2.2.2.2.2.2.1.map ab), .i .i64 r.2.2.2.2.2.2.2.2.2.1, .i .i64 r.2.2.2.2.2.2.2.2.2.2.1, .list (r.2.2.2.2.2.2.2.2.2.2.2.1.map ab), .list (r.2.2.2.2.2.2.2.2.2.2.2.2.1.map ab), .list (r.2.2.2.2.2.2.2.2.2.2.2.2.2.1.map ab), .b r.2.2.2.2.2.2.2.2.2.2.2.2.2.2.1, .s r.2.2.2.2.2.2.2.2.2.2.2.2.2.2.2.1, .list (r.2.2.2.2.2.2.2.2.2.2.2.2.2.2.2.2.1.map av), .i .i64 r.2.2.2.2.2.2.2.2.2.2.2.2.2.2.2.2.2]
@[reducible] def v4 (r : Int × Int × Int × (List UInt8) × (List ae) × Int × Int × (List UInt8) × (List aa) × Int × Int × Bool × Int × (List UInt8) × (List aa)) : List MV := [.i .i64 r.1, .i .i64 r.2.1, .i .i64 r.2.2.1, .s r.2.2.2.1, .list (r.2.2.2.2.1.map av), .i .i64 r.2.2.2.2.2.1, .i .i64 r.2.2.2.2.2.2.1, .s r.2.2.2.2.2.2.2.1, .list (r.2.2.2.2.2.2.2.2.1.map ab), .i .i64 r.2.2.2.2.2.2.2.2.2.1, .i .i64 r.2.2.2.2.2.2.2.2.2.2.1, .b r.2.2.2.2.2.2.2.2.2.2.2.1, .i .i64 r.2.2.2.2.2.2.2.2.2.2.2.2.1, .s r.2.2.2.2.2.2.2.2.2.2.2.2.2.1, .list (r.2.2.2.2.2.2.2.2.2.2.2.2.2.2.map ab)]
@[reducible] def v5 (r : Int × Int × (List Bool) × (List (List UInt8)) × (List aD) × (List aw) × Int) : List MV := [.i .i64 r.1, .i .i64 r.2.1, .list (r.2.2.1.map MV.b), .list (r.2.2.2.1.map MV.s), .list (r.2.2.2.2.1.map bL), .list (r.2.2.2.2.2.1.map bw), .i .i64 r.2.2.2.2.2.2]
@[reducible] def v6 (r : Int × Int × Int × (List Bool) × (List (List UInt8)) × (List aD) × (List aw)) : List MV := [.i .i64 r.1, .i .i64 r.2.1, .i .i64 r.2.2.1, .list (r.2.2.2.1.map MV.b), .list (r.2.2.2.2.1.map MV.s), .list (r.2.2.2.2.2.1.map bL), .list (r.2.2.2.2.2.2.map bw)]
@[reducible] def v7 (r : Int × Int × (List aa) × (List aa) × (List aa) × Bool × (List UInt8)) : List MV := [.i .i64 r.1, .i .i64 r.2.1, .list (r.2.2.1.map ab), .list (r.2.2.2.1.map ab), .list (r.2.2.2.2.1.map ab), .b r.2.2.2.2.2.1, .s r.2.2.2.2.2.2]
@[reducible] def v8 (r : Int × Int × (List Bool) × (List (List UInt8)) × (List aD) × (List aw)) : List MV := [.i .i64 r.1, .i .i64 r.2.1, .list (r.2.2.1.map MV.b), .list (r.2.2.2.1.map MV.s), .list (r.2.2.2.2.1.map bL), .list (r.2.2.2.2.2.map bw)]
@[reducible] def v9 (r : Int × (List Int) × Int) : List MV := [.i .i64 r.1, .list (r.2.1.map (MV.i .u8)), .i .i64 r.2.2]
@[reducible] def v10 (r : (List UInt8) × (List Int) × Int) : List MV := [.s r.1, .list (r.2.1.map (MV.i .u8)), .i .i64 r.2.2]
@[reducible] def v11 (r : Int × (List UInt8) × Bool) : List MV := [.i .i64 r.1, .s r.2.1, .b r.2.2]
theorem eC {A B:Type}{g:B->A}{T:Option B}{l:List MV}{K:Nat->Option A}(n:Nat)(h:Sm g (K n) T)(e:l.length=n:=by simp only [AT,OF,aaH]):Sm g (bB l K) T:=uT e h
theorem aK {A B C:Type}{g:B->A}{T:Option B}{f:C->MV}{M:List C}{K:Nat->Option A}(h:Sm g (K M.length) T):Sm g (bB (M.map f) K) T:=uT (AT ..) h
theorem ah {A B:Type}{g:B->A}{d:A}{a:B}(e:d=g a:=by exact rfl):Sm g (some d) (some a):=dj e
theorem ej {A B:Type}{g:B->A}{T:Option B}{k0 k1:IntKind}{x0:Int}{x1:Int}{K:Int->Int->Option A}(h:Sm g (K x0 x1) T):Sm g (oII k0 k1 [.i k0 x0,.i k1 x1] K) T:=af (ap (af (ap (aC h))))
theorem bX {A B:Type}{g:B->A}{T:Option B}{k0 k1 k3:IntKind}{x0:Int}{x1:Int}{x2:Bool}{x3:Int}{x4:List UInt8}{x5:List MV}{K:Int->Int->Bool->Int->List UInt8->List MV->Option A}(h:Sm g (K x0 x1 x2 x3 x4 x5) T):Sm g (Yc k0 k1 k3 [.i k0 x0,.i k1 x1,.b x2,.i k3 x3,.s x4,.list x5] K) T:=af (ap (af (ap (af (aE (af (ap (af (dh (af (aG (aC h))))))))))))
theorem ca {A B:Type}{g:B->A}{T:Option B}{k0 k1 k2 k3 k5:IntKind}{x0:Int}{x1:Int}{x2:Int}{x3:Int}{x4:Bool}{x5:Int}{x6:List UInt8}{x7:List MV}{x8:List MV}{K:Int->Int->Int->Int->Bool->Int->List UInt8->List MV->List MV->Option A}(h:Sm g (K x0 x1 x2 x3 x4 x5 x6 x7 x8) T):Sm g (K3 k0 k1 k2 k3 k5 [.i k0 x0,.i k1 x1,.i k2 x2,.i k3 x3,.b x4,.i k5 x5,.s x6,.list x7,.list x8] K) T:=af (ap (af (ap (af (ap (af (ap (af (aE (af (ap (af (dh (af (aG (af (aG (aC h))))))))))))))))))
theorem aA {A B:Type}{g:B->A}{T:Option B}{k0 k1 k2 k3 k5 k9 Q7 Yd:IntKind}{x0:Int}{x1:Int}{x2:Int}{x3:Int}{x4:Bool}{x5:Int}{x6:List UInt8}{x7:List MV}{x8:List MV}{x9:Int}{ll:Int}{lm:List MV}{mB:List MV}{lN:List MV}{nB:Bool}{pQ:List UInt8}{rh:List MV}{pa:Int}{K:Int->Int->Int->Int->Bool->Int->List UInt8->List MV->List MV->Int->Int->List MV->List MV->List MV->Bool->List UInt8->List MV->Int->Option A}(h:Sm g (K x0 x1 x2 x3 x4 x5 x6 x7 x8 x9 ll lm mB lN nB pQ rh pa) T):Sm g (dB k0 k1 k2 k3 k5 k9 Q7 Yd [.i k0 x0,.i k1 x1,.i k2 x2,.i k3 x3,.b x4,.i k5 x5,.s x6,.list x7,.list x8,.i k9 x9,.i Q7 ll,.list lm,.list mB,.list lN,.b nB,.s pQ,.list rh,.i Yd pa] K) T:=af (ap (af (ap (af (ap (af (ap (af (aE (af (ap (af (dh (af (aG (af (aG (af (ap (af (ap (af (aG (af (aG (af (aG (af (aE (af (dh (af (aG (af (ap (aC h))))))))))))))))))))))))))))))))))))
theorem ef {A B:Type}{g:B->A}{T:Option B}{k0 k1 k2 k3 k5 k9 Q7 Yd k18 k19 k20 k21 k23 k27 k28 k35:IntKind}{x0:Int}{x1:Int}{x2:Int}{x3:Int}{x4:Bool}{x5:Int}{x6:List UInt8}{x7:List MV}{x8:List MV}{x9:Int}{ll:Int}{lm:List MV}{mB:List MV}{lN:List MV}{nB:Bool}{pQ:List UInt8}{rh:List MV}{pa:Int}{yT:Int}{Eb:Int}{GS:Int}{Hj:Int}{Fo:Bool}{I4:Int}{Jy:List UInt8}{I5:List MV}{I6:List MV}{I7:Int}{Jz:Int}{JA:List MV}{JB:List MV}{JC:List MV}{JD:Bool}{JE:List UInt8}{Nu:List MV}{Q8:Int}{Q9:List MV}{Ra:List MV}{K:Int->Int->Int->Int->Bool->Int->List UInt8->List MV->List MV->Int->Int->List MV->List MV->List MV->Bool->List UInt8->List MV->Int->Int->Int->Int->Int->Bool->Int->List UInt8->List MV->List MV->Int->Int->List MV->List MV->List MV->Bool->List UInt8->List MV->Int->List MV->List MV->Option A}(h:Sm g (K x0 x1 x2 x3 x4 x5 x6 x7 x8 x9 ll lm mB lN nB pQ rh pa yT Eb GS Hj Fo I4 Jy I5 I6 I7 Jz JA JB JC JD JE Nu Q8 Q9 Ra) T):Sm g (dm k0 k1 k2 k3 k5 k9 Q7 Yd k18 k19 k20 k21 k23 k27 k28 k35 [.i k0 x0,.i k1 x1,.i k2 x2,.i k3 x3,.b x4,.i k5 x5,.s x6,.list x7,.list x8,.i k9 x9,.i Q7 ll,.list lm,.list mB,.list lN,.b nB,.s pQ,.list rh,.i Yd pa,.i k18 yT,.i k19 Eb,.i k20 GS,.i k21 Hj,.b Fo,.i k23 I4,.s Jy,.list I5,.list I6,.i k27 I7,.i k28 Jz,.list JA,.list JB,.list JC,.b JD,.s JE,.list Nu,.i k35 Q8,.list Q9,.list Ra] K) T:=af (ap (af (ap (af (ap (af (ap (af (aE (af (ap (af (dh (af (aG (af (aG (af (ap (af (ap (af (aG (af (aG (af (aG (af (aE (af (dh (af (aG (af (ap (af (ap (af (ap (af (ap (af (ap (af (aE (af (ap (af (dh (af (aG (af (aG (af (ap (af (ap (af (aG (af (aG (af (aG (af (aE (af (dh (af (aG (af (ap (af (aG (af (aG (aC h))))))))))))))))))))))))))))))))))))))))))))))))))))))))))))))))))))))))))))
theorem eg {A B:Type}{g:B->A}{T:Option B}{k0 k1 k2 k3 k5 k9 Q7 Yd:IntKind}{x0:Int}{x1:Int}{x2:Int}{x3:Int}{x4:Bool}{x5:Int}{x6:List UInt8}{x7:List MV}{x8:List MV}{x9:Int}{ll:Int}{lm:List MV}{mB:List MV}{lN:List MV}{nB:Bool}{pQ:List UInt8}{rh:List MV}{pa:Int}{yT:List MV}{K:Int->Int->Int->Int->Bool->Int->List UInt8->List MV->List MV->Int->Int->List MV->List MV->List MV->Bool->List UInt8->List MV->Int->List MV->Option A}(h:Sm g (K x0 x1 x2 x3 x4 x5 x6 x7 x8 x9 ll lm mB lN nB pQ rh pa yT) T):Sm g (dQ k0 k1 k2 k3 k5 k9 Q7 Yd [.i k0 x0,.i k1 x1,.i k2 x2,.i k3 x3,.b x4,.i k5 x5,.s x6,.list x7,.list x8,.i k9 x9,.i Q7 ll,.list lm,.list mB,.list lN,.b nB,.s pQ,.list rh,.i Yd pa,.list yT] K) T:=af (ap (af (ap (af (ap (af (ap (af (aE (af (ap (af (dh (af (aG (af (aG (af (ap (af (ap (af (aG (af (aG (af (aG (af (aE (af (dh (af (aG (af (ap (af (aG (aC h))))))))))))))))))))))))))))))))))))))
theorem nh {A B:Type}{g:B->A}{T:Option B}{k0 k1 k2 k3 k4 k5 k8 k9 k12 k13 k15:IntKind}{x0:Int}{x1:Int}{x2:Int}{x3:Int}{x4:Int}{x5:Int}{x6:List UInt8}{x7:List MV}{x8:Int}{x9:Int}{ll:List UInt8}{lm:List MV}{mB:Int}{lN:Int}{nB:Bool}{pQ:Int}{rh:List UInt8}{pa:List MV}{K:Int->Int->Int->Int->Int->Int->List UInt8->List MV->Int->Int->List UInt8->List MV->Int->Int->Bool->Int->List UInt8->List MV->Option A}(h:Sm g (K x0 x1 x2 x3 x4 x5 x6 x7 x8 x9 ll lm mB lN nB pQ rh pa) T):Sm g (tz k0 k1 k2 k3 k4 k5 k8 k9 k12 k13 k15 [.i k0 x0,.i k1 x1,.i k2 x2,.i k3 x3,.i k4 x4,.i k5 x5,.s x6,.list x7,.i k8 x8,.i k9 x9,.s ll,.list lm,.i k12 mB,.i k13 lN,.b nB,.i k15 pQ,.s rh,.list pa] K) T:=af (ap (af (ap (af (ap (af (ap (af (ap (af (ap (af (dh (af (aG (af (ap (af (ap (af (dh (af (aG (af (ap (af (ap (af (aE (af (ap (af (dh (af (aG (aC h))))))))))))))))))))))))))))))))))))
theorem bC {A B:Type}{g:B->A}{T:Option B}{k0 k1 k2 k5 k6 k9 Q7 k12:IntKind}{x0:Int}{x1:Int}{x2:Int}{x3:List UInt8}{x4:List MV}{x5:Int}{x6:Int}{x7:List UInt8}{x8:List MV}{x9:Int}{ll:Int}{lm:Bool}{mB:Int}{lN:List UInt8}{nB:List MV}{K:Int->Int->Int->List UInt8->List MV->Int->Int->List UInt8->List MV->Int->Int->Bool->Int->List UInt8->List MV->Option A}(h:Sm g (K x0 x1 x2 x3 x4 x5 x6 x7 x8 x9 ll lm mB lN nB) T):Sm g (kD k0 k1 k2 k5 k6 k9 Q7 k12 [.i k0 x0,.i k1 x1,.i k2 x2,.s x3,.list x4,.i k5 x5,.i k6 x6,.s x7,.list x8,.i k9 x9,.i Q7 ll,.b lm,.i k12 mB,.s lN,.list nB] K) T:=af (ap (af (ap (af (ap (af (dh (af (aG (af (ap (af (ap (af (dh (af (aG (af (ap (af (ap (af (aE (af (ap (af (dh (af (aG (aC h))))))))))))))))))))))))))))))
theorem cb {A B:Type}{g:B->A}{T:Option B}{k0 k1:IntKind}{x0:Int}{x1:Int}{x2:List MV}{x3:List MV}{x4:List MV}{x5:Bool}{x6:List UInt8}{K:Int->Int->List MV->List MV->List MV->Bool->List UInt8->Option A}(h:Sm g (K x0 x1 x2 x3 x4 x5 x6) T):Sm g (yu k0 k1 [.i k0 x0,.i k1 x1,.list x2,.list x3,.list x4,.b x5,.s x6] K) T:=af (ap (af (ap (af (aG (af (aG (af (aG (af (aE (af (dh (aC h))))))))))))))
theorem bZ {A B:Type}{g:B->A}{T:Option B}{k0 k1:IntKind}{x0:Int}{x1:Int}{x2:List MV}{x3:List MV}{x4:List MV}{x5:List MV}{K:Int->Int->List MV->List MV->List MV->List MV->Option A}(h:Sm g (K x0 x1 x2 x3 x4 x5) T):Sm g (ml k0 k1 [.i k0 x0,.i k1 x1,.list x2,.list x3,.list x4,.list x5] K) T:=af (ap (af (ap (af (aG (af (aG (af (aG (af (aG (aC h))))))))))))
theorem cP {A B:Type}{g:B->A}{T:Option B}{k0 k1:IntKind}{x0:Int}{x1:Int}{x2:List UInt8}{K:Int->Int->List UInt8->Option A}(h:Sm g (K x0 x1 x2) T):Sm g (ape k0 k1 [.i k0 x0,.i k1 x1,.s x2] K) T:=af (ap (af (ap (af (dh (aC h))))))
theorem Iz {A B:Type}{g:B->A}{T:Option B}{k0 k2:IntKind}{x0:Int}{x1:List MV}{x2:Int}{K:Int->List MV->Int->Option A}(h:Sm g (K x0 x1 x2) T):Sm g (Wt k0 k2 [.i k0 x0,.list x1,.i k2 x2] K) T:=af (ap (af (aG (af (ap (aC h))))))
theorem vz {A B:Type}{g:B->A}{T:Option B}{k0:IntKind}{x0:Int}{x1:List UInt8}{x2:Bool}{K:Int->List UInt8->Bool->Option A}(h:Sm g (K x0 x1 x2) T):Sm g (ahp k0 [.i k0 x0,.s x1,.b x2] K) T:=af (ap (af (dh (af (aE (aC h))))))
theorem Uu {A B:Type}{g:B->A}{T:Option B}{x0:List MV}{x1:Bool}{K:List MV->Bool->Option A}(h:Sm g (K x0 x1) T):Sm g (oLB [.list x0,.b x1] K) T:=af (aG (af (aE (aC h))))
theorem n8 {A B:Type}{g:B->A}{T:Option B}{k1:IntKind}{x0:List MV}{x1:Int}{K:List MV->Int->Option A}(h:Sm g (K x0 x1) T):Sm g (oLI k1 [.list x0,.i k1 x1] K) T:=af (aG (af (ap (aC h))))
theorem Mc {A B:Type}{g:B->A}{T:Option B}{x0:List MV}{x1:List MV}{x2:Bool}{K:List MV->List MV->Bool->Option A}(h:Sm g (K x0 x1 x2) T):Sm g (Tv [.list x0,.list x1,.b x2] K) T:=af (aG (af (aG (af (aE (aC h))))))
theorem Uv {A B:Type}{g:B->A}{T:Option B}{x0:List UInt8}{x1:Bool}{K:List UInt8->Bool->Option A}(h:Sm g (K x0 x1) T):Sm g (oSB [.s x0,.b x1] K) T:=af (dh (af (aE (aC h))))
theorem Z7 (a:lh)(a1:List eh):Sm MV.b (Cc (DZ a) (.list (a1.map mP))) (ya a a1):=by
 unfold Cc ya;refine ax (af (ap (af (ap (af (aG (af (aG (aC (aG ?_))))))))));refine ai (f:=λr=>[.b r]) ?_ λw=> ?_
 ·refine aJ ?_ ?_
  ·exact ah
  ·refine aK<|aJ ?_ ?_
   ·exact ah
   ·refine aK<|aJ ?_ ?_
    ·exact ah
    ·refine aK ah
 ·refine af (aE (aC (au ?_ ?_)))
  ·exact ah
  ·refine ai (b6 (λr=>[.i .i64 r]) (BY (λr=>(2,[])) (λr=>(1,[.b r]))) (rfl) λst=> ?_) λw1=> ?_
   ·unfold wF;refine af (ap (aC (aK (aJ ?_ ?_))))
    ·refine aU (f:=MV.s) (rfl) λy=>dh<|aJ ?_ ?_
     ·exact ah
     ·exact ah
    ·exact ah
   ·rcases w1 with p1|p2
    ·refine gD rfl (aC (ai (b6 (λr=>[.i .i64 r]) (BY (λr=>(4,[])) (λr=>(1,[.b r]))) (rfl) λdC=> ?_) λw2=> ?_))
     ·unfold sH;refine af (ap (aC (aK (aJ ?_ ?_))))
      ·refine aU (f:=mP) (rfl) λy1=>ax (nh ?_);refine ai (f:=λr=>[.b r]) ?_ λw3=> ?_
       ·refine aJ ?_ ?_
        ·exact ah
        ·refine aJ ?_ ?_
         ·exact ah
         ·refine aK<|aJ ?_ ?_
          ·exact ah
          ·refine aK<|aJ ?_ ?_
           ·exact ah
           ·refine aJ ?_ ?_
            ·exact ah
            ·refine aK ah
       ·refine af (aE (aC (au ?_ ?_)))
        ·exact ah
        ·refine ai (b6 (λr=>[.i .i64 r]) (BY (λr=>(6,[])) (λr=>(1,[.b r]))) (rfl) λeM=> ?_) λw4=> ?_
         ·unfold sG;refine af (ap (aC (aK (aJ ?_ ?_))))
          ·refine aU (f:=av) (rfl) λy2=>ax (bX (aK (aJ ?_ ?_)))
           ·exact ah
           ·exact ah
          ·exact ah
         ·rcases w4 with p5|p6
          ·refine gD rfl (aC ah)
          ·refine gE rfl (bn rfl (af (aE (aC ah))))
      ·exact ah
     ·rcases w2 with p7|p8
      ·refine gD rfl (aC ah)
      ·refine gE rfl (bn rfl (af (aE (aC ah))))
    ·refine gE rfl (bn rfl (af (aE (aC ah))))
theorem N0 (sA:ak):Sm (λx:Nat×Nat=>MV.raw (.complex .f64 x.1 x.2)) (sa (bT sA)) (xq sA):=by unfold sa xq;refine ax (ej ah)
theorem pI (sA:ak)(times:Nat×Nat):Sm (MV.i .i64) (jI (bT sA) (.raw (.complex .f64 times.1 times.2))) (kO sA times):=by unfold jI kO;refine ax (ej (adb (ai (N0 sA) λrA=>adb (Q4 (Q4 (Jx λf=>Q4 (Q4 (Jx λf1=>Jx λf2=>Jx λn=>cG ah))))))))
theorem zN (sA:ak):Sm (MV.i .i64) (th (bT sA)) (qk sA):=by unfold th qk;refine ax (ej (ai (pI sA (4613937818241073152,4611686018427387904)) λrA=>ap ah))
theorem rQ (sA:ak):Sm MV.b (lj (bT sA)) (jU sA):=by
 unfold lj jU;refine ax (ej ?_);refine ai (f:=λr=>[.b r]) ?_ λw=> ?_
 ·refine aJ ?_ ?_
  ·refine aJ ?_ ?_
   ·refine aJ ?_ ?_
    ·exact ah
    ·exact ah
   ·exact ah
  ·exact ah
 ·refine af (aE (aC ah))
theorem Gn (sA:ak)(me:Int):Sm (λr=> .cM [cX r.1,.i .i64 r.2]) (qE (bT sA) (.i .i64 me)) (nu sA me):=by
 unfold qE nu;refine ax (ej (ap ?_));refine ai (f:=λr=>[.b r]) ?_ λw=> ?_
 ·refine ai (rQ sA) λrA=>aE<|au ?_ ?_
  ·exact ah
  ·refine aJ ?_ ?_
   ·exact ah
   ·refine ai (zN sA) λaY=>ap ah
 ·refine af (aE (aC (au ?_ ?_)))
  ·exact ah
  ·exact ah
theorem IA (sA:ak):Sm (λr=> .cM [dM r.1,.i .i64 r.2]) (sU (bT sA)) (po sA):=by
 unfold sU po;refine ax (ej (ai (rQ sA) λrA=>aE (au ?_ ?_)))
 ·exact ah
 ·exact ah
theorem Md (sA:ak)(i:Int):Sm (λr=> .cM [bL r.1,.i .i64 r.2]) (ve (bT sA) (.i .i64 i)) (mQ sA i):=by
 unfold ve mQ;refine ax (ej (ap (ai (Gn sA i) λrA=>cu (af (ax (ca (af (ap (aC (au ?_ ?_))))))))))
 ·exact ah
 ·refine ai (IA sA) λaY=>cu (af (ax (cb (af (ap (aC ah))))))
theorem aeJ (a:ak)(a1:List Bool)(a2:List (List UInt8)):Sm (λr=> .cM [jB r.1,.i .i64 r.2]) (Fx (bT a) (.list (a1.map MV.b)) (.list (a2.map MV.s))) (yb a a1 a2):=by
 unfold Fx yb;refine ax (ej (aG (aG ?_)));refine ai (f:=λr=>[.b r]) ?_ λw=> ?_
 ·refine ai (rQ a) λrA=>aE<|au ?_ ?_
  ·exact ah
  ·refine aK<|ai (zN a) λaY=>ap<|au ?_ ?_
   ·exact ah
   ·refine aK (aK ah)
 ·refine af (aE (aC (au ?_ ?_)))
  ·exact ah
  ·refine ai (B8 (size:=1) (f:=MV.b) (λ_=>rfl) a1) λbH=>jA<|ai (B8 (size:=1) (f:=MV.s) (λ_=>rfl) a2) λcr=>jA (aK (ai (b6 (λr=>[.i .i64 r.1,.i .i64 r.2.1,.list (r.2.2.1.map MV.b),.list (r.2.2.2.1.map MV.s),.list (r.2.2.2.2.1.map bL),.list (r.2.2.2.2.2.1.map bw),.i .i64 r.2.2.2.2.2.2.1,.i .i64 r.2.2.2.2.2.2.2.1,.list (r.2.2.2.2.2.2.2.2.1.map MV.b),.list (r.2.2.2.2.2.2.2.2.2.1.map MV.s),.list (r.2.2.2.2.2.2.2.2.2.2.1.map bL),.list (r.2.2.2.2.2.2.2.2.2.2.2.1.map bw),.i .i64 r.2.2.2.2.2.2.2.2.2.2.2.2.1,.i .i64 r.2.2.2.2.2.2.2.2.2.2.2.2.2]) (BY (λr=>(2,[.i .i64 r.1,.i .i64 r.2.1,.list (r.2.2.1.map MV.b),.list (r.2.2.2.1.map MV.s),.list (r.2.2.2.2.1.map bL),.list (r.2.2.2.2.2.1.map bw),.i .i64 r.2.2.2.2.2.2.1,.i .i64 r.2.2.2.2.2.2.2.1,.list (r.2.2.2.2.2.2.2.2.1.map MV.b),.list (r.2.2.2.2.2.2.2.2.2.1.map MV.s),.list (r.2.2.2.2.2.2.2.2.2.2.1.map bL),.list (r.2.2.2.2.2.2.2.2.2.2.2.map bw)])) (λr=>(1,(v5 r)))) (rfl) λst=> ?_) λw1=> ?_))
   ·unfold D7;refine af (ap (af (ap (af (aG (af (aG (af (aG (af (aG (af (ap (af (ap (af (aG (af (aG (af (aG (af (aG (ej (aJ ?_ ?_)))))))))))))))))))))))))
    ·refine aU (f:=MV.b) (rfl) λy=>aE<|ai (f:=(λr=>(0,[.i .i64 r]))) ?_ λw2=> ?_
     ·refine au ?_ ?_
      ·exact ah
      ·exact ah
     ·refine bn rfl (af (ap (aC ?_)));refine ai (f:=λr=>[.b r]) ?_ λw3=> ?_
      ·refine aU (f:=MV.s) (rfl) λy1=>dh<|aJ ?_ ?_
       ·exact ah
       ·exact ah
      ·refine af (aE (aC (au ?_ ?_)))
       ·exact ah
       ·refine ai (Md a st.2.2.2.2.2.2.2.2.2.2.2.2.2) λeU=>cu (af (ax (aA (af (ap (aC (aK (eC (([eU.1]:List aD).length) (cG (dj (by simp [al,bx,v5])))))))))))
    ·exact ah
   ·rcases w1 with p2|p3
    ·refine gD rfl (af (ap (af (ap (af (aG (af (aG (af (aG (af (aG (bZ ah)))))))))))))
    ·refine gE rfl (bn rfl (af (ap (af (ap (af (aG (af (aG (af (aG (n8 ah))))))))))))
theorem Mf (b:List Int):Sm (λr=> .cM [.i .u64 r.1,.list (r.2.1.map (MV.i .u8)),.i .i64 r.2.2]) (vh (.list (b.map (MV.i .u8)))) (rC b):=by
 unfold vh rC;refine aG (aK (aJ ?_ ?_))
 ·exact ah
 ·refine aU (f:=(MV.i .u8)) (rfl) λy=> ?_;refine ap (bn (rZ (rfl:_=aaO (MV.i .u8) b) λ_=>rfl) (aK (cG ?_)));refine ai (f:=λr=>[.b r]) ?_ λw=> ?_
  ·refine aJ ?_ ?_
   ·exact ah
   ·refine aJ ?_ ?_
    ·refine uT (n:=(aaM (sh 1) (aaN (sh (b.length:Int)) b)).length) (by simp only [AT,No,OF,aaH,aaI,aaJ,aaK])<|aJ ?_ ?_
     ·refine aU (f:=(MV.i .u8)) (by simp only [wE,aaL,AI,IN,aav,IS,IT,aay]) λy1=>ap ah
     ·exact ah
    ·exact ah
  ·refine af (aE (aC (au ?_ ?_)))
   ·exact ah
   ·refine uT (n:=(aaM (sh 1) (aaN (sh (b.length:Int)) b)).length) (by simp only [AT,No,OF,aaH,aaI,aaJ,aaK])<|aJ ?_ ?_
    ·exact ah
    ·refine uT (n:=(aaM (sh 1) (aaN (sh (b.length:Int)) b)).length) (by simp only [AT,No,OF,aaH,aaI,aaJ,aaK]) (cG (uT (n:=(aaM (sh 0) (aaN (sh (fj .i64 y)) (aaM (sh 1) (aaN (sh (b.length:Int)) b)))).length) (by simp only [AT,No,OF,aaH,aaI,aaJ,aaK]) ?_));refine ai (b6 (λr=>[.i .u64 r.1,.i .i64 r.2]) (λr=>(3,[.i .u64 r])) (rfl) λst=> ?_) λw1=> ?_
     ·unfold ql;refine ej<|aJ ?_ ?_
      ·refine aU (f:=(MV.i .u8)) (by simp only [wE,aaL,AI,IN,aav,IS,IT,aay]) λy2=>ap (cG ah)
      ·exact ah
     ·refine bn rfl (af (ap (aC (bn (rZ ((by simp only [wE,aaL,AI,IN,aav,IS,IT,aay]):_=aaO (MV.i .u8) (aaM (sh 1) (aaN (sh (b.length:Int)) b))) λ_=>rfl) (uT (n:=(aaM (sh 1) (aaN (sh (b.length:Int)) b)).length) (by simp only [AT,No,OF,aaH,aaI,aaJ,aaK]) (cG ?_))))));exact dj (by first|(simp;done)|simp only [AI,IN,aav,IS,IT,aay])
theorem N5 (b:List Int):Sm (λr=> .cM (v9 r)) (sb (.list (b.map (MV.i .u8)))) (oo b):=by unfold sb oo;refine aG<|ai (Mf b) λrA=>cu (Iz (cG ah))
theorem gJ (t:aZ):Sm (λr=> .gm ((MV.i .i64) r.1) (fm r.2)) (dR (fm t)) (cI t):=by
 unfold dR cI;refine n8<|ai (f:=(λr=>(0,(v9 r)))) ?_ λw=> ?_
 ·refine aJ ?_ ?_
  ·refine ai (N5 t.b) λrA=>cu (Iz ah)
  ·exact ah
 ·refine bn rfl (Iz ah)
theorem Mg (b:List Int)(most:Int):Sm (λr=> .cM (v10 r)) (qF (.list (b.map (MV.i .u8))) (.i .i64 most)) (ku b most):=by
 unfold qF ku;refine aG (ap (ai (Mf b) λrA=>cu (Iz (au ?_ ?_))))
 ·exact ah
 ·refine aJ ?_ ?_
  ·exact ah
  ·refine aK<|aJ ?_ ?_
   ·exact ah
   ·refine aK (cG (adf (M:=aaM (sh 0) (aaN (sh rA.1) rA.2.1)) ((by simp only [wE,aaL,AI,IN,aav,IS,IT,aay])) λbs=> ?_));refine bn (rZ (rfl:_=aaO (MV.i .u8) rA.2.1) λ_=>rfl) (aK (cG (dj (by first|(simp [v10];done)|simp only [v10,AI,IN,aav,IS,IT,aay]))))
theorem tD (t:aZ):Sm (λr=> .gm (MV.s r.1) (fm r.2)) (iC (fm t)) (dA t):=by
 unfold iC dA;refine n8<|ai (f:=(λr=>(0,(v10 r)))) ?_ λw=> ?_
 ·refine aJ ?_ ?_
  ·refine ai (Mg t.b 6000) λrA=>cu (af (dh (n8 ah)))
  ·exact ah
 ·refine bn rfl (af (dh (n8 ah)))
theorem BE (t:aZ):Sm (λr=> .gm ((I3 ab) r.1) (fm r.2)) (jL (fm t)) (dP t):=by
 unfold jL dP;refine n8<|ai (gJ t) λrA=>om (n8 (ap ?_));refine ai (f:=λr=>[.b r]) ?_ λw=> ?_
 ·refine aJ ?_ ?_
  ·exact ah
  ·exact ah
 ·refine af (aE (aC (ai (f:=(λr=>(0,[.list (r.1.map (MV.i .u8)),.i .i64 r.2]))) ?_ λw1=> ?_)))
  ·refine au ?_ ?_
   ·exact ah
   ·exact ah
  ·refine bn rfl (n8 ?_);refine ai (f:=λr=>[.b r]) ?_ λw2=> ?_
   ·refine au ?_ ?_
    ·exact ah
    ·exact ah
   ·refine af (aE (aC (au ?_ ?_)))
    ·exact ah
    ·refine cG (uT (n:=(aaQ (sh rA.1) (⟨0,0,([]:List UInt8)⟩:aa)).length) (by simp only [List.length_replicate,AT,No,OF,aaH,aaI,aaJ,aaK]) ?_);refine ai (b6 (λr=>[.list (r.1.map ab),.i .i64 r.2.1,.list (r.2.2.1.map (MV.i .u8)),.i .i64 r.2.2.2]) (λr=>(2,[.list (r.1.map ab),.list (r.2.1.map (MV.i .u8)),.i .i64 r.2.2])) (by simp [fm]) λst=> ?_) λw3=> ?_
     ·unfold cK;refine af (aG (Iz (aJ ?_ ?_)))
      ·refine ai (gJ (⟨st.2.2.1,st.2.2.2⟩:aZ)) λaY=>om (n8 (ap (aU (f:=ab) (rfl) λy=>ax (cP (dj (by simp [fm]))))))
      ·exact ah
     ·refine bn rfl (af (aG (n8 (ai (gJ (⟨w3.2.1,w3.2.2⟩:aZ)) λbH=>om (n8 (ap (ai (tD bH.2) λcr=>om (n8 (dh (aK (ai (b6 (λr=>[.list (r.1.map ab),.i .i64 r.2]) (λr=>(4,[.list (r.map ab)])) (rfl) λdC=> ?_) λw4=> ?_)))))))))))
      ·unfold fR;refine n8<|aJ ?_ ?_
       ·refine aU (f:=ab) (rfl) λy1=>ax (cP (aU (f:=ab) (by simp only [wE,aaL,AI,IN,aav,IS,IT,aay]) λy2=>ax (cP (dj (by simp [fm])))))
       ·exact ah
      ·refine bn rfl (af (aG (aC ah)))
theorem DB (isA:Bool):Sm (MV.i .i64) (oz (.b isA)) (iO isA):=by
 unfold oz iO;refine aE<|au ?_ ?_
 ·exact ah
 ·exact ah
theorem zO (sA:ak):Sm (MV.i .i64) (pe (bT sA)) (mR sA):=by unfold pe mR;refine ax (ej (ai (pI sA (4611686018427387904,4607182418800017408)) λrA=>ap ah))
theorem uA (a:aa):Sm MV.b (nC (ab a)) (lG a):=by
 unfold nC lG;refine ax (cP ?_);refine ai (f:=λr=>[.b r]) ?_ λw=> ?_
 ·refine aJ ?_ ?_
  ·refine aJ ?_ ?_
   ·refine aJ ?_ ?_
    ·exact ah
    ·exact ah
   ·exact ah
  ·exact ah
 ·refine af (aE (aC ah))
theorem Uw (t:az):Sm MV.b (wN (iN t)) (sI t):=by
 unfold wN sI;refine ax (af (aG (aC (aK (ai (b6 (λr=>[.i .i64 r]) (BY (λr=>(2,[])) (λr=>(1,[.b r]))) (rfl) λst=> ?_) λw=> ?_)))))
 ·unfold r6;refine af (ap (aC (aJ ?_ ?_)))
  ·refine aU (f:=ab) (rfl) λy=>ax (cP ?_);refine ai (f:=λr=>[.b r]) ?_ λw1=> ?_
   ·refine ai (uA y) λrA=>aE<|au ?_ ?_
    ·exact ah
    ·refine aJ ?_ ?_
     ·refine aU (f:=ab) (rfl) λy1=>ax (cP ah)
     ·exact ah
   ·refine af (aE (aC (au ?_ ?_)))
    ·exact ah
    ·exact ah
  ·exact ah
 ·rcases w with p1|p2
  ·refine gD rfl (aC ah)
  ·refine gE rfl (bn rfl (af (aE (aC ah))))
theorem Gp (t:az)(view:Int)(value:List UInt8):Sm (I3 ab) (qG (iN t) (.i .i64 view) (.s value)) (nv t view value):=by
 unfold qG nv;refine ax (af (aG (aC (ap (dh (aK (ai (b6 (λr=>[.list (r.1.map ab),.i .i64 r.2]) (λr=>(2,[.list (r.map ab)])) (rfl) λst=> ?_) λw=> ?_)))))))
 ·unfold mS;refine n8<|aJ ?_ ?_
  ·refine aU (f:=ab) (rfl) λy=>ax (cP ?_);refine ai (f:=λr=>[.b r]) ?_ λw1=> ?_
   ·refine aJ ?_ ?_
    ·exact ah
    ·exact ah
   ·refine af (aE (aC (ai (f:=(λr=>(0,[.list (r.map ab)]))) ?_ λw2=> ?_)))
    ·refine au ?_ ?_
     ·refine aK (eC (([y]:List aa).length) (cG (dj (by simp))))
     ·exact ah
    ·refine bn rfl (af (aG (aC ah)))
  ·exact ah
 ·refine bn rfl (af (aG (aC ah)))
theorem Ux (t:az)(view:Int)(value:List UInt8):Sm (MV.i .i64) (wO (iN t) (.i .i64 view) (.s value)) (sJ t view value):=by unfold wO sJ;refine ax (af (aG (aC (ap (dh (ai (Gp t view value) λrA=>aG (aK ah)))))))
theorem BF (sA:ak)(p:List aa):Sm MV.b (pD (bT sA) (.list (p.map ab))) (hU sA p):=by
 unfold pD hU;refine ax (ej (aG ?_));refine ai (f:=λr=>[.b r]) ?_ λw=> ?_
 ·refine ai (rQ sA) λrA=>aE<|au ?_ ?_
  ·exact ah
  ·refine aK<|ai (zO sA) λaY=>ap<|au ?_ ?_
   ·exact ah
   ·refine ai (Uw (⟨p⟩:az)) λbH=>aE ah
 ·refine af (aE (aC (au ?_ ?_)))
  ·exact ah
  ·refine ai (f:=λr=>[.b r]) ?_ λw1=> ?_
   ·refine aK<|aU (f:=ab) (rfl) λy=>ax (cP (ai (zN sA) λcr=>ap (aJ ?_ ?_)))
    ·refine aU (f:=ab) (rfl) λy1=>ax (cP (aU (f:=ab) (rfl) λy2=>ax (cP (aK (ai (Ux (⟨p⟩:az) y1.View y2.Value) λeU=>ap ah)))))
    ·exact ah
   ·refine af (aE (aC ah))
theorem zP (a:aj):Sm MV.b (iH (cX a)) (eK a):=by
 unfold iH eK;refine ax (ca ?_);refine ai (f:=λr=>[.b r]) ?_ λw=> ?_
 ·refine aJ ?_ ?_
  ·exact ah
  ·exact ah
 ·refine af (aE (aC (au ?_ ?_)))
  ·exact ah
  ·refine ai (f:=λr=>[.b r]) ?_ λw1=> ?_
   ·refine au ?_ ?_
    ·refine aJ ?_ ?_
     ·exact ah
     ·refine aJ ?_ ?_
      ·exact ah
      ·exact ah
    ·exact ah
   ·refine af (aE (aC (au ?_ ?_)))
    ·exact ah
    ·refine ai (f:=λr=>[.b r]) ?_ λw2=> ?_
     ·refine au ?_ ?_
      ·refine au ?_ ?_
       ·exact ah
       ·exact ah
      ·exact ah
     ·refine af (aE (aC (au ?_ ?_)))
      ·exact ah
      ·refine ai (f:=λr=>[.b r]) ?_ λw3=> ?_
       ·refine aK<|aJ ?_ ?_
        ·exact ah
        ·refine ai (BF a.S a.Proof) λrA=>aE<|au ?_ ?_
         ·refine aU (f:=ab) (rfl) λy=>ax (cP ah)
         ·exact ah
       ·refine af (aE (aC ah))
theorem N6 (a:ak)(a1:Int)(a2:List Int):Sm (λr=> .cM [cX r.1,.i .i64 r.2]) (sd (bT a) (.i .i64 a1) (.list (a2.map (MV.i .u8)))) (lH a a1 a2):=by
 unfold sd lH;refine ax (ej (ap (aG (ai (Gn a a1) λrA=>cu (af (ax (ca (af (ap (aC (au ?_ ?_)))))))))))
 ·exact ah
 ·refine ai (gJ (⟨a2,0⟩:aZ)) λaY=>om (n8 (ap (ai (gJ aY.2) λbH=>om (n8 (ap (ai (gJ bH.2) λcr=>om (n8 (ap (ai (tD cr.2) λeU=> ?_)))))))));refine om (n8 (dh (ai (BE eU.2) λkP=>om (n8 (aG ?_)))));refine ai (f:=λr=>[.b r]) ?_ λw=> ?_
  ·refine au ?_ ?_
   ·exact ah
   ·refine ai (DB (decide (bH.1=1))) λqm=>ap<|au ?_ ?_
    ·exact ah
    ·refine aK<|aJ ?_ ?_
     ·exact ah
     ·refine ai (zP (⟨rA.1.S,rA.1.Me,aY.1,decide (bH.1=1),cr.1,eU.1,kP.1,rA.1.bI⟩:aj)) λA8=>aE ah
  ·refine af (aE (aC (au ?_ ?_)))
   ·exact ah
   ·exact ah
theorem Gq (p:List aa):Sm (λr=> .cM (v11 r)) (vm (.list (p.map ab))) (oq p):=by
 unfold vm oq;refine aG (aK (aJ ?_ ?_))
 ·exact ah
 ·refine aU (f:=ab) (rfl) λy=>ax (cP (aU (f:=ab) (rfl) λy1=>ax (cP ah)))
theorem WK (x:Int):Sm (MV.i .i64) (zC (.i .u64 x)) (zq x):=by
 unfold zC zq;refine ap<|ai (f:=(λr=>(0,[.i .u64 r.1,.i .i64 r.2]))) ?_ λw=> ?_
 ·refine aJ ?_ ?_
  ·refine cG ah
  ·exact ah
 ·refine bn rfl (ej (ai (f:=(λr=>(0,[.i .u64 r.1,.i .i64 r.2]))) ?_ λw1=> ?_))
  ·refine aJ ?_ ?_
   ·refine cG ah
   ·exact ah
  ·refine bn rfl (ej (ai (f:=(λr=>(0,[.i .u64 r.1,.i .i64 r.2]))) ?_ λw2=> ?_))
   ·refine aJ ?_ ?_
    ·refine cG ah
    ·exact ah
   ·refine bn rfl (ej (cG ah))
theorem WL (n:Int):Sm (MV.i .i64) (zD (.i .u64 n)) (uV n):=by unfold zD uV;refine ap<|ai (WK n) λrA=>ap (tQ ah)
theorem Jn (sA:List Int):Sm (aiW (MV.i .u8)) (oU (.list (sA.map (MV.i .u8)))) (oQ sA):=by unfold oU oQ;refine aG (aK (aK (Yb (by simp only [AT]) ah)))
theorem PP (b:List Int)(n:Int):Sm (Q3 (MV.i .u8)) (yw (.list (b.map (MV.i .u8))) (.i .u64 n)) (uj b n):=by
 unfold yw uj;refine aG (ap (ai (WL n) λrA=>ap (ai (Jn b) λaY=> ?_)));refine Wq (bn (rZ (rfl:_=aaO (MV.i .u8) aY) λ_=>rfl) (aK (eC (([fj .u8 (fj .i64 (rA-1))]:List Int).length) (cG (ai (b6 (λr=>[.list (r.1.map (MV.i .u8)),.i .i64 r.2]) (λr=>(2,[.list (r.map (MV.i .u8))])) (by simp) λst=> ?_) λw=> ?_)))))
 ·unfold sK;refine n8<|aJ ?_ ?_
  ·refine cG (aK (eC (([fj .u8 (Int.fdiv n (2^min (sh (fj .i64 (8 *st.2))) (aaP .u64)))]:List Int).length) (cG (dj (by simp)))))
  ·exact ah
 ·refine bn rfl (af (aG (aC ah)))
theorem uB (b:List Int)(n:Int):Sm (Q3 (MV.i .u8)) (nD (.list (b.map (MV.i .u8))) (.i .i64 n)) (lI b n):=by unfold nD lI;refine aG (ap (cG (cG (ai (PP b (GW .u64 (fj .u64 ((fj .u64 n) *2^min (sh 1) (aaP .u64))) (fj .u64 (Int.fdiv n (2^min (sh 63) (aaP .i64)))))) λrA=>jA ah))))
theorem Mh (b:List Int)(sA:List UInt8):Sm (Q3 (MV.i .u8)) (vn (.list (b.map (MV.i .u8))) (.s sA)) (rD b sA):=by unfold vn rD;refine aG (dh (ai (PP b (fj .u64 (sA.length:Int))) λrA=>jA (aK (uT (n:=(A5 sA).length) (by simp only [wE,AT,No,OF,aaH,aaI,aaJ,aaK]) (cG ?_)))));exact dj (by simp)
theorem N7 (a:aj):Sm (I3 (MV.i .u8)) (se (cX a)) (ot a):=by
 unfold se ot;refine ax (ca (ai (uB ([]:List Int) a.View) λrA=>jA (ai (DB a.Has) λaY=>ap (ai (uB rA aY) λbH=>jA (ai (uB bH a.At) λcr=>jA (aK (ai (Mh cr a.Value) λeU=> ?_)))))));refine jA<|ai (uB eU (a.Proof.length:Int)) λkP=>jA (aK (ai (b6 (λr=>[.list (r.1.map (MV.i .u8)),.i .i64 r.2]) (λr=>(2,[.list (r.map (MV.i .u8))])) (rfl) λst=> ?_) λw=> ?_))
 ·unfold oR;refine n8<|aJ ?_ ?_
  ·refine aU (f:=ab) (rfl) λy=>ax (cP (ai (uB st.1 y.By) λqm=>jA ah))
  ·exact ah
 ·refine bn rfl (af (aG (aC (ai (Gq a.Proof) λA8=>cu (vz (ai (f:=(λr=>(0,[.list (r.map (MV.i .u8))]))) ?_ λw1=> ?_))))))
  ·refine au ?_ ?_
   ·refine ai (uB w A8.1) λGR=>jA<|ai (Mh GR A8.2.1) λrA9=>jA ah
   ·exact ah
  ·refine bn rfl (af (aG (aC ah)))
theorem Gr (sA:ak)(i:Int)(n:aD):Sm bL (qI (bT sA) (.i .i64 i) (bL n)) (nw sA i n):=by unfold qI nw;refine ax (ej (ap (ax (aA (ai (N7 n.A) λrA=>aG (ai (N6 sA i rA) λaY=>cu (af (ax (ca (af (ap (aC (ai (IA sA) λbH=>cu (af (ax (cb (af (ap (aC ?_)))))))))))))))))));exact ah
theorem jN (c:aQ)(i:Int)(bad:Bool):Sm MV.b (gd (jB c) (.i .i64 i) (.b bad)) (fG c i bad):=by
 unfold gd fG;refine ax (bZ (ap (aE ?_)));refine ai (f:=λr=>[.b r]) ?_ λw=> ?_
 ·refine aJ ?_ ?_
  ·refine aK<|aJ ?_ ?_
   ·refine aU (f:=MV.b) (rfl) λy=>aE ah
   ·exact ah
  ·exact ah
 ·refine af (aE (aC ah))
theorem Ax (s1:List aa)(s2:List aa):Sm MV.b (je (.list (s1.map ab)) (.list (s2.map ab))) (lX s1 s2):=by
 unfold je lX;refine aG (aG (aK (aK (au ?_ ?_))))
 ·exact ah
 ·refine aK<|ai (b6 (λr=>[.i .i64 r]) (BY (λr=>(2,[])) (λr=>(1,[.b r]))) (rfl) λst=> ?_) λw=> ?_
  ·unfold pq;refine af (ap (aC (aJ ?_ ?_)))
   ·refine aU (f:=ab) (rfl) λy=>ax (cP (aU (f:=ab) (rfl) λy1=>ax (cP (au ?_ ?_))))
    ·exact ah
    ·exact ah
   ·exact ah
  ·rcases w with p1|p2
   ·refine gD rfl (aC ah)
   ·refine gE rfl (bn rfl (af (aE (aC ah))))
theorem WM (a:List aa)(b:List aa):Sm MV.b (zE (.list (a.map ab)) (.list (b.map ab))) (D8 a b):=by unfold zE D8;refine aG (aG (ai (Ax a b) λrA=>aE ah))
theorem N8 (x:ae)(y:ae):Sm MV.b (sf (av x) (av y)) (r7 x y):=by
 unfold sf r7;refine ax (bX (ax (bX ?_)));refine ai (f:=λr=>[.b r]) ?_ λw=> ?_
 ·refine aJ ?_ ?_
  ·refine aJ ?_ ?_
   ·refine aJ ?_ ?_
    ·refine aJ ?_ ?_
     ·refine aJ ?_ ?_
      ·refine ai (WM x.Proof y.Proof) λrA=>aE ah
      ·exact ah
     ·exact ah
    ·exact ah
   ·exact ah
  ·exact ah
 ·refine af (aE (aC ah))
theorem kG (s1:List ae)(s2:List ae)(eq:ae->ae->Option Bool){YL:Nat}{ER:List MV}(ayI:gv YL=false)(jO: ∀(u0:ae)(u1:ae),Sm MV.b (dv YL ([av u0,av u1]++ER)) (eq u0 u1)):Sm MV.b (cS (.list (s1.map av)) (.list (s2.map av)) (.func YL ER)) (dF s1 s2 eq):=by
 unfold cS dF;refine aG (aG (zp (aK (aK (au ?_ ?_)))))
 ·exact ah
 ·refine aK<|ai (b6 (λr=>[.i .i64 r]) (BY (λr=>(2,[])) (λr=>(1,[.b r]))) (rfl) λst=> ?_) λw=> ?_
  ·unfold fg;refine af (ap (aC (aJ ?_ ?_)))
   ·refine aU (f:=av) (rfl) λy=>ax (bX (aU (f:=av) (rfl) λy1=> ?_));refine ax (bX (A6 (bn (by rw [ayI];rfl) ?_)));refine ai (jO y y1) λrA=>aE<|au ?_ ?_
    ·exact ah
    ·exact ah
   ·exact ah
  ·rcases w with p1|p2
   ·refine gD rfl (aC ah)
   ·refine gE rfl (bn rfl (af (aE (aC ah))))
theorem Uy (a:List ae)(b:List ae):Sm MV.b (wP (.list (a.map av)) (.list (b.map av))) (A9 a b):=by unfold wP A9;refine aG (aG (ai (kG a b r7 (YL:=176) (ER:=[]) rfl (λu2 u3=>Sm.at (gU _ _) (N8 u2 u3))) λrA=>aE ah))
theorem tE (m:aw)(c:ae):Sm MV.b (kf (bw m) (.rp [.i .i64 c.By,.i .i64 c.fP,.b c.Has,.i .i64 c.View,.s c.Value,.list (c.Proof.map ab)])) (fX m c):=by
 unfold kf fX;refine ax (bC (Ya (bX ?_)));refine ai (f:=λr=>[.b r]) ?_ λw=> ?_
 ·refine aJ ?_ ?_
  ·refine ai (Uy ([m.R]:List ae) ([c]:List ae)) λrA=>aE ah
  ·exact ah
 ·refine af (aE (aC ah))
theorem Gs (m:aw)(c:aa):Sm MV.b (mn (bw m) (.rp [.i .i64 c.By,.i .i64 c.View,.s c.Value])) (mg m c):=by
 unfold mn mg;refine ax (bC (Ya (cP ?_)));refine ai (f:=λr=>[.b r]) ?_ λw=> ?_
 ·refine aJ ?_ ?_
  ·exact ah
  ·exact ah
 ·refine af (aE (aC ah))
theorem yF (sA:List aw)(f:aw->Option Bool){Cg:Nat}{sZ:List MV}(Kl:gv Cg=false)(jn: ∀(u0:aw),Sm MV.b (eQ Cg ([bw u0]++sZ)) (f u0)):Sm (MV.i .i64) (il (.list (sA.map bw)) (.func Cg sZ)) (kv sA f):=by
 unfold il kv;refine aG (zp (aK (ai (b6 (λr=>[.i .i64 r]) (BY (λr=>(2,[])) (λr=>(1,[.i .i64 r]))) (rfl) λst=> ?_) λw=> ?_)))
 ·unfold nN;refine af (ap (aC (aJ ?_ ?_)))
  ·refine aU (f:=bw) (rfl) λy=> ?_;refine ax (bC (A6 (bn (by rw [Kl];rfl) ?_)));refine ai (jn y) λrA=>aE<|au ?_ ?_
   ·exact ah
   ·exact ah
  ·exact ah
 ·rcases w with p1|p2
  ·refine gD rfl (aC ah)
  ·refine gE rfl (bn rfl (af (ap (aC ah))))
theorem iY (sA:List aw)(f:aw->Option Bool){Cg:Nat}{sZ:List MV}(Kl:gv Cg=false)(jn: ∀(u0:aw),Sm MV.b (eQ Cg ([bw u0]++sZ)) (f u0)):Sm MV.b (dH (.list (sA.map bw)) (.func Cg sZ)) (eH sA f):=by unfold dH eH;refine aG (zp (ai (yF sA f Kl jn) λrA=>ap ah))
theorem Jo (c:aQ)(a:aa):Sm MV.b (oV (jB c) (ab a)) (te c a):=by
 unfold oV te;refine ax (bZ (ax (cP ?_)));refine ai (f:=λr=>[.b r]) ?_ λw=> ?_
 ·refine ai (jN c a.By true) λrA=>aE<|au ?_ ?_
  ·exact ah
  ·refine ai (iY c.cA (λu=>mg u a) (Cg:=179) (sZ:=[.rp [.i .i64 a.By,.i .i64 a.View,.s a.Value]]) rfl (λu1=>Sm.at (lZ _ _) (Gs u1 a))) λaY=> ?_;refine aE ah
 ·refine af (aE (aC ah))
theorem CZ (a:aa)(c:aQ):Sm MV.b (kg (ab a) (.rp [.i .i64 c.S.F,.i .i64 c.S.T,.list (c.fW.map MV.b),.list (c.Want.map MV.s),.list (c.N.map bL),.list (c.cA.map bw)])) (ke a c):=by unfold kg ke;refine ax (cP (Ya (bZ (ai (Jo c a) λrA=>aE ah))))
theorem vY (sA:List aa)(f:aa->Option Bool){Cg:Nat}{sZ:List MV}(Kl:gv Cg=false)(iI: ∀(u0:aa),Sm MV.b (fJ Cg ([ab u0]++sZ)) (f u0)):Sm (MV.i .i64) (gk (.list (sA.map ab)) (.func Cg sZ)) (ji sA f):=by
 unfold gk ji;refine aG (zp (aK (ai (b6 (λr=>[.i .i64 r]) (BY (λr=>(2,[])) (λr=>(1,[.i .i64 r]))) (rfl) λst=> ?_) λw=> ?_)))
 ·unfold mh;refine af (ap (aC (aJ ?_ ?_)))
  ·refine aU (f:=ab) (rfl) λy=> ?_;refine ax (cP (A6 (bn (by rw [Kl];rfl) ?_)));refine ai (iI y) λrA=>aE<|au ?_ ?_
   ·exact ah
   ·exact ah
  ·exact ah
 ·rcases w with p1|p2
  ·refine gD rfl (aC ah)
  ·refine gE rfl (bn rfl (af (ap (aC ah))))
theorem tk (sA:List aa)(f:aa->Option Bool){Cg:Nat}{sZ:List MV}(Kl:gv Cg=false)(iI: ∀(u0:aa),Sm MV.b (fJ Cg ([ab u0]++sZ)) (f u0)):Sm MV.b (fp (.list (sA.map ab)) (.func Cg sZ)) (iy sA f):=by unfold fp iy;refine aG (zp (ai (vY sA f Kl iI) λrA=>ap ah))
theorem qY (c:aQ)(lA:List aa):Sm MV.b (iq (jB c) (.list (lA.map ab))) (jD c lA):=by unfold iq jD;refine ax (bZ (aG (ai (tk lA (λu=>ke u c) (Cg:=147) (sZ:=[.rp [.i .i64 c.S.F,.i .i64 c.S.T,.list (c.fW.map MV.b),.list (c.Want.map MV.s),.list (c.N.map bL),.list (c.cA.map bw)]]) rfl (λu1=>Sm.at (kF _ _) (CZ u1 c))) λrA=> ?_)));refine aE ah
theorem Gt (c:aQ)(rA:ae):Sm MV.b (mq (jB c) (av rA)) (qn c rA):=by
 unfold mq qn;refine ax (bZ (ax (bX ?_)));refine ai (f:=λr=>[.b r]) ?_ λw=> ?_
 ·refine ai (jN c rA.By true) λaY=>aE<|au ?_ ?_
  ·refine ai (qY c rA.Proof) λbH=>aE<|au ?_ ?_
   ·exact ah
   ·refine ai (iY c.cA (λu=>fX u rA) (Cg:=143) (sZ:=[.rp [.i .i64 rA.By,.i .i64 rA.fP,.b rA.Has,.i .i64 rA.View,.s rA.Value,.list (rA.Proof.map ab)]]) rfl (λu1=>Sm.at (fU _ _) (tE u1 rA))) λcr=> ?_;refine aE ah
  ·refine ai (iY c.cA (λu2=>fX u2 rA) (Cg:=143) (sZ:=[.rp [.i .i64 rA.By,.i .i64 rA.fP,.b rA.Has,.i .i64 rA.View,.s rA.Value,.list (rA.Proof.map ab)]]) rfl (λu3=>Sm.at (fU _ _) (tE u3 rA))) λeU=> ?_;refine aE ah
 ·refine af (aE (aC ah))
theorem RM (rA:ae)(c:aQ):Sm MV.b (tV (av rA) (.rp [.i .i64 c.S.F,.i .i64 c.S.T,.list (c.fW.map MV.b),.list (c.Want.map MV.s),.list (c.N.map bL),.list (c.cA.map bw)])) (tR rA c):=by unfold tV tR;refine ax (bX (Ya (bZ (ai (Gt c rA) λaY=>aE ah))))
theorem vZ (sA:List ae)(f:ae->Option Bool){Cg:Nat}{sZ:List MV}(Kl:gv Cg=false)(iJ: ∀(u0:ae),Sm MV.b (fK Cg ([av u0]++sZ)) (f u0)):Sm (MV.i .i64) (gl (.list (sA.map av)) (.func Cg sZ)) (jk sA f):=by
 unfold gl jk;refine aG (zp (aK (ai (b6 (λr=>[.i .i64 r]) (BY (λr=>(2,[])) (λr=>(1,[.i .i64 r]))) (rfl) λst=> ?_) λw=> ?_)))
 ·unfold mi;refine af (ap (aC (aJ ?_ ?_)))
  ·refine aU (f:=av) (rfl) λy=> ?_;refine ax (bX (A6 (bn (by rw [Kl];rfl) ?_)));refine ai (iJ y) λrA=>aE<|au ?_ ?_
   ·exact ah
   ·exact ah
  ·exact ah
 ·rcases w with p1|p2
  ·refine gD rfl (aC ah)
  ·refine gE rfl (bn rfl (af (ap (aC ah))))
theorem tl (sA:List ae)(f:ae->Option Bool){Cg:Nat}{sZ:List MV}(Kl:gv Cg=false)(iJ: ∀(u0:ae),Sm MV.b (fK Cg ([av u0]++sZ)) (f u0)):Sm MV.b (fq (.list (sA.map av)) (.func Cg sZ)) (iz sA f):=by unfold fq iz;refine aG (zp (ai (vZ sA f Kl iJ) λrA=>ap ah))
theorem WN (c:aQ)(m:aw):Sm MV.b (zG (jB c) (bw m)) (D9 c m):=by
 unfold zG D9;refine ax (bZ (ax (bC (aJ ?_ ?_))))
 ·refine ai (f:=λr=>[.b r]) ?_ λw=> ?_
  ·refine ai (jN c m.dU true) λrA=>aE<|au ?_ ?_
   ·refine ai (tl m.dX (λu=>tR u c) (Cg:=79) (sZ:=[.rp [.i .i64 c.S.F,.i .i64 c.S.T,.list (c.fW.map MV.b),.list (c.Want.map MV.s),.list (c.N.map bL),.list (c.cA.map bw)]]) rfl (λu1=>Sm.at (nE _ _) (RM u1 c))) λaY=> ?_;refine aE ah
   ·exact ah
  ·refine af (aE (aC ah))
 ·refine aJ ?_ ?_
  ·refine ai (jN c m.fM.By true) λbH=>aE ah
  ·refine aJ ?_ ?_
   ·refine ai (f:=λr=>[.b r]) ?_ λw1=> ?_
    ·refine ai (jN c m.dU true) λcr=>aE<|au ?_ ?_
     ·refine ai (qY c m.Proof) λeU=>aE ah
     ·exact ah
    ·refine af (aE (aC ah))
   ·refine aJ ?_ ?_
    ·refine ai (f:=λr=>[.b r]) ?_ λw2=> ?_
     ·refine ai (jN c m.R.By true) λkP=>aE<|au ?_ ?_
      ·refine ai (qY c m.R.Proof) λqm=>aE ah
      ·exact ah
     ·refine af (aE (aC ah))
    ·refine aJ ?_ ?_
     ·refine ai (jN c m.dU true) λA8=>aE ah
     ·exact ah
theorem vA (sA:List aw):Sm (aiW bw) (fA (.list (sA.map bw))) (iW sA):=by unfold fA iW;refine aG (aK (aK (Yb (by simp only [AT]) ah)))
theorem BG (sA:ak)(view:Int):Sm (MV.i .i64) (pF (bT sA) (.i .i64 view)) (kQ sA view):=by unfold pF kQ;refine ax (ej (ap (ai (zN sA) λrA=>ap (tQ ah))))
theorem DC (rA:ae):Sm (MV.i .i64) (oK (av rA)) (lJ rA):=by
 unfold oK lJ;refine ax (bX (ai (Gq rA.Proof) λaY=>cu (vz (au ?_ ?_))))
 ·exact ah
 ·exact ah
theorem WO (sA:ak):Sm (MV.i .i64) (zI (bT sA)) (uW sA):=by unfold zI uW;refine ax (ej (ai (pI sA (4607182418800017408,4607182418800017408)) λrA=>ap ah))
theorem Gu (a:ak)(a1:List ae):Sm (λr=> .cM [.s r.1,.b r.2]) (qM (bT a) (.list (a1.map av))) (ny a a1):=by
 unfold qM ny;refine ax (ej (aG (aK (ai (b6 (λr=>[.i .i64 r.1,.s r.2.1,.i .i64 r.2.2]) (λr=>(2,[.i .i64 r.1,.s r.2])) (rfl) λst=> ?_) λw=> ?_))))
 ·unfold mT;refine af (ap (af (dh (af (ap (aC (aJ ?_ ?_)))))))
  ·refine aU (f:=av) (rfl) λy=>ax (bX (ai (DC y) λrA=>ap (ai (f:=(λr=>(0,[.i .i64 r.1,.s r.2]))) ?_ λw1=> ?_)))
   ·refine aJ ?_ ?_
    ·refine aU (f:=ab) (rfl) λy1=>ax (cP ah)
    ·exact ah
   ·refine bn rfl (af (ap (af (dh (aC ah)))))
  ·exact ah
 ·refine bn rfl (af (ap (af (dh (aC (aK (ai (b6 (λr=>[.list r.1,.i .i64 r.2]) (λr=>(4,[.list r])) (rfl) λdC=> ?_) λw2=> ?_)))))))
  ·unfold qo;refine n8<|aJ ?_ ?_
   ·refine aU (f:=av) (rfl) λy2=>ax (bX ?_);refine ai (f:=λr=>[.b r]) ?_ λw3=> ?_
    ·refine au ?_ ?_
     ·exact ah
     ·exact ah
    ·refine af (aE (aC (ai (f:=(λr=>(0,[.list r]))) ?_ λw4=> ?_)))
     ·refine au ?_ ?_
      ·exact ah
      ·exact ah
     ·refine bn rfl (af (aG (aC ah)))
   ·exact ah
  ·refine bn rfl (af (aG (aC (ai (adi (e:=id) (f:=(BY (λr=>(6,[])) (λr=>(1,[.s r.1,.b r.2])))) (List.map_id _).symm ?_ λm29=> ?_) λw5=> ?_))))
   ·exact ah
   ·unfold qp;refine akA λkey n=>ai (WO a) λaY=>ap<|aJ ?_ ?_
    ·exact ah
    ·exact dj rfl
   ·rcases w5 with p5|p6
    ·refine gD rfl (aC ah)
    ·refine gE rfl (bn rfl (Uv ah))
theorem PQ (sA:ak):Sm (MV.i .i64) (yz (bT sA)) (uk sA):=by unfold yz uk;refine ax (ej (ai (pI sA (4611686018427387904,4611686018427387904)) λrA=>ap ah))
theorem Mi (a:ak)(a1:ae):Sm MV.b (vq (bT a) (av a1)) (o8 a a1):=by
 unfold vq o8;refine ax (ej (ax (bX ?_)));refine ai (f:=λr=>[.b r]) ?_ λw=> ?_
 ·refine ai (rQ a) λrA=>aE<|au ?_ ?_
  ·exact ah
  ·refine aJ ?_ ?_
   ·exact ah
   ·refine ai (zN a) λaY=>ap<|aJ ?_ ?_
    ·exact ah
    ·refine aJ ?_ ?_
     ·exact ah
     ·exact ah
 ·refine af (aE (aC (au ?_ ?_)))
  ·exact ah
  ·refine ai (f:=λr=>[.b r]) ?_ λw1=> ?_
   ·refine au ?_ ?_
    ·refine au ?_ ?_
     ·exact ah
     ·exact ah
    ·exact ah
   ·refine af (aE (aC (au ?_ ?_)))
    ·exact ah
    ·refine ai (f:=λr=>[.b r]) ?_ λw2=> ?_
     ·refine au ?_ ?_
      ·refine aJ ?_ ?_
       ·exact ah
       ·refine aJ ?_ ?_
        ·exact ah
        ·exact ah
      ·exact ah
     ·refine af (aE (aC (au ?_ ?_)))
      ·exact ah
      ·refine ai (f:=λr=>[.b r]) ?_ λw3=> ?_
       ·refine aK<|aJ ?_ ?_
        ·exact ah
        ·refine ai (BF a a1.Proof) λbH=>aE<|au ?_ ?_
         ·refine ai (DC a1) λcr=>ap ah
         ·exact ah
       ·refine af (aE (aC ah))
theorem RN (sA:ak)(view:Int)(lA:List ae):Sm MV.b (tX (bT sA) (.i .i64 view) (.list (lA.map av))) (qt sA view lA):=by
 unfold tX qt;refine ax (ej (ap (aG ?_)));refine ai (f:=λr=>[.b r]) ?_ λw=> ?_
 ·refine ai (rQ sA) λrA=>aE<|au ?_ ?_
  ·exact ah
  ·refine aK<|ai (PQ sA) λaY=>ap ah
 ·refine af (aE (aC (au ?_ ?_)))
  ·exact ah
  ·refine aK<|ai (b6 (λr=>[.i .i64 r.1,.i .i64 r.2]) (BY (λr=>(2,[])) (λr=>(1,[.b r]))) (rfl) λst=> ?_) λw1=> ?_
   ·unfold qq;refine ej<|aJ ?_ ?_
    ·refine aU (f:=av) (rfl) λy=>ax (bX ?_);refine ai (f:=λr=>[.b r]) ?_ λw2=> ?_
     ·refine ai (Mi sA y) λbH=>aE<|au ?_ ?_
      ·exact ah
      ·refine au ?_ ?_
       ·exact ah
       ·exact ah
     ·refine af (aE (aC (au ?_ ?_)))
      ·exact ah
      ·exact ah
    ·exact ah
   ·rcases w1 with p1|p2
    ·refine gD rfl (aC ah)
    ·refine gE rfl (bn rfl (af (aE (aC ah))))
theorem Mj (sA:ak)(view:Int)(lA:List ae)(value:List UInt8):Sm MV.b (qO (bT sA) (.i .i64 view) (.list (lA.map av)) (.s value)) (mU sA view lA value):=by
 unfold qO mU;refine ax (ej (ap (aG (dh (ai (RN sA view lA) λrA=>aE (au ?_ ?_))))))
 ·exact ah
 ·refine ai (Gu sA lA) λaY=>cu (Uv ?_);refine ai (f:=λr=>[.b r]) ?_ λw=> ?_
  ·refine au ?_ ?_
   ·exact ah
   ·exact ah
  ·refine af (aE (aC ah))
theorem HD (a:aj)(view:Int)(value:List UInt8)(jE:List ae):Sm (λr=> .cM [cX r.1,ab r.2.1,.b r.2.2]) (nF (cX a) (.i .i64 view) (.s value) (.list (jE.map av))) (fH a view value jE):=by
 unfold nF fH;refine ax (ca (ap (dh (aG ?_))));refine ai (f:=λr=>[.b r]) ?_ λw=> ?_
 ·refine au ?_ ?_
  ·exact ah
  ·refine au ?_ ?_
   ·refine aJ ?_ ?_
    ·exact ah
    ·exact ah
   ·exact ah
 ·refine af (aE (aC (au ?_ ?_)))
  ·exact ah
  ·refine ai (f:=λr=>[.b r]) ?_ λw1=> ?_
   ·refine aJ ?_ ?_
    ·refine aK ah
    ·exact ah
   ·refine af (aE (aC (ai (f:=(BY (λr=>(1,[.i .i64 r.1,.i .i64 r.2.1,.i .i64 r.2.2.1,.i .i64 r.2.2.2.1,.b r.2.2.2.2.1,.i .i64 r.2.2.2.2.2.1,.s r.2.2.2.2.2.2.1,.list (r.2.2.2.2.2.2.2.1.map ab),.list (r.2.2.2.2.2.2.2.2.1.map ab),.i .i64 r.2.2.2.2.2.2.2.2.2.1,.i .i64 r.2.2.2.2.2.2.2.2.2.2.1,.s r.2.2.2.2.2.2.2.2.2.2.2.1,.b r.2.2.2.2.2.2.2.2.2.2.2.2])) (λr=>(0,[.i .i64 r.1,.i .i64 r.2.1,.i .i64 r.2.2.1,.i .i64 r.2.2.2.1,.b r.2.2.2.2.1,.i .i64 r.2.2.2.2.2.1,.s r.2.2.2.2.2.2.1,.list (r.2.2.2.2.2.2.2.1.map ab),.list (r.2.2.2.2.2.2.2.2.1.map ab),.i .i64 r.2.2.2.2.2.2.2.2.2.1,.i .i64 r.2.2.2.2.2.2.2.2.2.2.1,.s r.2.2.2.2.2.2.2.2.2.2.2])))) ?_ λw2=> ?_)))
    ·refine au ?_ ?_
     ·exact ah
     ·refine ai (Mj a.S view jE value) λrA=>aE<|au ?_ ?_
      ·exact ah
      ·exact ah
    ·rcases w2 with p1|p2
     ·refine gD rfl (af (ap (af (ap (af (ap (af (ap (af (aE (af (ap (af (dh (af (aG (af (aG (af (ap (vz ah)))))))))))))))))))))
     ·refine gE rfl (bn rfl (af (ap (af (ap (af (ap (af (ap (af (aE (af (ap (af (dh (af (aG (af (aG (cP ah))))))))))))))))))))
theorem Gv (x:Int):Sm MV.b (qP (.i .i64 x)) (nz x):=by unfold qP nz;refine ap ah
theorem BH (x:Int)(y:Int):Sm (MV.i .i64) (nd (.i .i64 x) (.i .i64 y)) (kw x y):=by
 unfold nd kw;refine ap (ap (ai (Gv x) λrA=>aE (ai (Gv y) λaY=>aE (au ?_ ?_))))
 ·refine au ?_ ?_
  ·exact ah
  ·exact ah
 ·refine au ?_ ?_
  ·exact ah
  ·refine aJ ?_ ?_
   ·exact ah
   ·refine aJ ?_ ?_
    ·exact ah
    ·exact ah
theorem Uz (x:aa)(nA:Int):Sm (MV.i .i64) (wS (ab x) (.i .i64 nA)) (kR x nA):=by unfold wS kR;refine ax (cP (ap (ai (BH x.By nA) λrA=>ap ah)))
theorem oM (x:List aa)(target:Int)(cmp:aa->Int->Option Int){YL:Nat}{ER:List MV}(UA:gv YL=false)(gK: ∀(u0:aa)(u1:Int),Sm (MV.i .i64) (dx YL ([ab u0,.i .i64 u1]++ER)) (cmp u0 u1)):Sm (λr=> .cM [.i .i64 r.1,.b r.2]) (dN (.list (x.map ab)) (.i .i64 target) (.func YL ER)) (cZ x target cmp):=by
 unfold dN cZ;refine aG (ap (zp (aK (ai (b6 (λr=>[.i .i64 r.1,.i .i64 r.2]) (λr=>(2,[.i .i64 r])) (rfl) λst=> ?_) λw=> ?_))))
 ·unfold ig;refine ej<|aJ ?_ ?_
  ·refine cG<|aU (f:=ab) (rfl) λy=> ?_;refine ax (cP (A6 (bn (by rw [UA];rfl) ?_)));refine ai (gK y target) λrA=>ap<|ai (f:=(λr=>(0,[.i .i64 r.1,.i .i64 r.2]))) ?_ λw1=> ?_
   ·refine aJ ?_ ?_
    ·exact ah
    ·exact ah
   ·refine bn rfl (ej ah)
  ·exact ah
 ·refine bn rfl (af (ap (aC ?_)));refine ai (f:=λr=>[.i .i64 r.1,.b r.2]) ?_ λw2=> ?_
  ·refine aJ ?_ ?_
   ·refine aU (f:=ab) (rfl) λy1=> ?_;refine ax (cP (A6 (bn (by rw [UA];rfl) ?_)));refine ai (gK y1 target) λaY=>ap ah
   ·exact ah
  ·refine af (ap (af (aE (aC ah))))
theorem Cz (t:az)(a:aa):Sm (λr=> .cM [iN r.1,.b r.2]) (rM (iN t) (ab a)) (iU t a):=by
 unfold rM iU;refine ax (af (aG (aC (ax (cP (ai (uA a) λrA=>aE (au ?_ ?_)))))))
 ·exact ah
 ·refine ai (oM t.L a.By kR (YL:=155) (ER:=[]) rfl (λu2 u3=>Sm.at (jX _ _) (Uz u2 u3))) λaY=>cu (af (ap (af (aE (aC ?_)))));refine ai (f:=λr=>[.b r]) ?_ λw=> ?_
  ·refine au ?_ ?_
   ·refine aU (f:=ab) (rfl) λy=>ax (cP ah)
   ·exact ah
  ·refine af (aE (aC (au ?_ ?_)))
   ·exact ah
   ·refine ai (B8 (size:=3) (f:=ab) (λ_=>rfl) t.L) λbH=>jA<|ai (f:=(λr=>(0,[.list (r.map ab)]))) ?_ λw1=> ?_
    ·refine au ?_ ?_
     ·refine aU (f:=ab) (rfl) λy1=>ax (cP (dj (by simp)))
     ·refine ai (Tt (f:=ab) bH aY.1 ([a]:List aa)) λcr=>jA ah
    ·refine bn rfl (af (aG (aC ah)))
theorem zQ (a:az)(a1:Int):Sm (λr=> .cM (v11 r)) (pf (iN a) (.i .i64 a1)) (li a a1):=by
 unfold pf li;refine ax (af (aG (aC (ap (aK (ai (b6 (λr=>[.list r.1,.i .i64 r.2]) (λr=>(2,[.list r])) (rfl) λst=> ?_) λw=> ?_))))))
 ·unfold tS;refine n8<|aJ ?_ ?_
  ·refine aU (f:=ab) (rfl) λy=>ax (cP (cG ah))
  ·exact ah
 ·refine bn rfl (af (aG (aC (aK (ai (b6 (λr=>[.i .i64 r.1,.s r.2.1,.b r.2.2.1,.i .i64 r.2.2.2]) (λr=>(4,(v11 r))) (rfl) λdC=> ?_) λw1=> ?_)))))
  ·unfold qu;refine af (ap (af (dh (af (aE (af (ap (aC (aJ ?_ ?_)))))))))
   ·refine aU (f:=ab) (rfl) λy1=>ax (cP ?_);refine ai (f:=λr=>[.b r]) ?_ λw2=> ?_
    ·refine aJ ?_ ?_
     ·refine aJ ?_ ?_
      ·exact ah
      ·exact ah
     ·exact ah
    ·refine af (aE (aC (ai (f:=(λr=>(0,(v11 r)))) ?_ λw3=> ?_)))
     ·refine au ?_ ?_
      ·exact ah
      ·exact ah
     ·refine bn rfl (vz ah)
   ·exact ah
  ·refine bn rfl (vz (au ?_ ?_))
   ·exact ah
   ·exact ah
theorem WQ (sA:ak)(t:az):Sm (λr=> .cM [.list (r.1.map ab),.b r.2]) (zJ (bT sA) (iN t)) (uX sA t):=by
 unfold zJ uX;refine ax (ej (ax (af (aG (aC (ai (zO sA) λrA=>ap (ai (zQ t rA) λaY=>cu (vz (au ?_ ?_)))))))))
 ·exact ah
 ·refine ai (Gp t aY.1 aY.2.1) λbH=>aG<|ai (zO sA) λcr=>ap (aK (cG (dj (by first|(simp;done)|simp only [ab,bT,iN,sF,KX,Fi,AI,IN,aav,IS,IT,aay]))))
theorem N9 (a:aj)(a1:aa):Sm (λr=> .cM [cX r.1,.list (r.2.1.map ab),.b r.2.2]) (si (cX a) (ab a1)) (lK a a1):=by
 unfold si lK;refine ax (ca (ax (cP ?_)));refine ai (f:=λr=>[.b r]) ?_ λw=> ?_
 ·refine ai (zN a.S) λrA=>ap<|aJ ?_ ?_
  ·exact ah
  ·exact ah
 ·refine af (aE (aC (au ?_ ?_)))
  ·exact ah
  ·refine ai (Cz a.bI a1) λaY=>cu (af (ax (af (aG (aC (af (aE (aC (ai (WQ a.S aY.1) λbH=>cu (Uu (ai (Gq a.Proof) λcr=>cu (vz ?_))))))))))));refine ai (f:=λr=>[.b r]) ?_ λw1=> ?_
   ·refine ai (uA a1) λeU=>aE<|au ?_ ?_
    ·exact ah
    ·refine au ?_ ?_
     ·exact ah
     ·exact ah
   ·refine af (aE (aC (au ?_ ?_)))
    ·exact ah
    ·exact ah
theorem Z8 (sA:ak):Sm (MV.i .i64) (Ch (bT sA)) (yc sA):=by unfold Ch yc;refine ax (ej (ai (pI sA (4613937818241073152,4607182418800017408)) λrA=>ap ah))
theorem Ay (lA:aq)(t:aq)(a:aa)(bY:Int):Sm (λr=> .gm ((λr=> .cM [.b r.1,.s r.2]) r.1) (gG r.2)) (gu (dM lA) (gG t) (ab a) (.i .i64 bY)) (jb lA t a bY):=by
 unfold gu jb;refine ax (cb (ax (cP (ap (cb ?_)))));refine ai (f:=λr=>[.b r]) ?_ λw=> ?_
 ·refine au ?_ ?_
  ·exact ah
  ·refine aJ ?_ ?_
   ·exact ah
   ·refine ai (zN lA.S) λrA=>ap<|aJ ?_ ?_
    ·exact ah
    ·refine ai (uA a) λaY=>aE ah
 ·refine af (aE (aC (au ?_ ?_)))
  ·exact ah
  ·refine ai (Cz t.aO a) λbH=>cu (af (ax (af (aG (aC (af (aE (aC (ai (zQ bH.1 bY) λcr=>cu (vz ah))))))))))
theorem Az (lA:aq)(t:aq)(a:aa)(bY:Int):Sm (λr=> .gm ((λr=> .cM [.b r.1,.s r.2]) r.1) (gG r.2)) (gw (dM lA) (gG t) (ab a) (.i .i64 bY)) (jc lA t a bY):=by
 unfold gw jc;refine ax (cb (ax (cP (ap (cb ?_)))));refine ai (f:=λr=>[.b r]) ?_ λw=> ?_
 ·refine au ?_ ?_
  ·exact ah
  ·refine aJ ?_ ?_
   ·exact ah
   ·refine ai (zN lA.S) λrA=>ap<|aJ ?_ ?_
    ·exact ah
    ·refine ai (uA a) λaY=>aE ah
 ·refine af (aE (aC (au ?_ ?_)))
  ·exact ah
  ·refine ai (Cz t.aP a) λbH=>cu (af (ax (af (aG (aC (af (aE (aC (ai (zQ bH.1 bY) λcr=>cu (vz ah))))))))))
theorem AA (lA:aq)(t:aq)(a:aa)(bY:Int):Sm (λr=> .gm ((λr=> .cM [.b r.1,.s r.2]) r.1) (gG r.2)) (gx (dM lA) (gG t) (ab a) (.i .i64 bY)) (jd lA t a bY):=by
 unfold gx jd;refine ax (cb (ax (cP (ap (cb ?_)))));refine ai (f:=λr=>[.b r]) ?_ λw=> ?_
 ·refine au ?_ ?_
  ·exact ah
  ·refine aJ ?_ ?_
   ·exact ah
   ·refine ai (zN lA.S) λrA=>ap<|aJ ?_ ?_
    ·exact ah
    ·refine ai (uA a) λaY=>aE ah
 ·refine af (aE (aC (au ?_ ?_)))
  ·exact ah
  ·refine ai (Cz t.Told a) λbH=>cu (af (ax (af (aG (aC (af (aE (aC (ai (zQ bH.1 bY) λcr=>cu (vz ah))))))))))
theorem HE (lA:aq)(a:aa):Sm dM (nG (dM lA) (ab a)) (iV lA a):=by
 unfold nG iV;refine ax (cb (ax (cP (ai (Z8 lA.S) λrA=>ap (ai (Ay lA lA a rA) λaY=>om (cb (cu (af (aE (af (dh (aC (ai (f:=(λr=>(0,(v7 r)))) ?_ λw=> ?_)))))))))))))
 ·refine au ?_ ?_
  ·exact ah
  ·exact ah
 ·refine bn rfl (cb ah)
theorem Gw (lA:aq)(nA:Int)(p:List aa):Sm dM (mr (dM lA) (.i .i64 nA) (.list (p.map ab))) (jF lA nA p):=by
 unfold mr jF;refine ax (cb (ap (aG (ai (BF lA.S p) λrA=>aE (au ?_ ?_)))))
 ·exact ah
 ·refine ai (Gq p) λaY=>cu (vz (ai (zO lA.S) λbH=>ap (ai (Az lA lA (⟨nA,aY.1,aY.2.1⟩:aa) bH) λcr=>om (cb (cu (af (aE (af (dh (aC (ai (f:=(λr=>(0,(v7 r)))) ?_ λw=> ?_)))))))))))
  ·refine au ?_ ?_
   ·exact ah
   ·exact ah
  ·refine bn rfl (cb ah)
theorem Jp (x:ae)(nA:Int):Sm (MV.i .i64) (oW (av x) (.i .i64 nA)) (ga x nA):=by unfold oW ga;refine ax (bX (ap (ai (BH x.By nA) λrA=>ap ah)))
theorem oN (x:List ae)(target:Int)(cmp:ae->Int->Option Int){YL:Nat}{ER:List MV}(UA:gv YL=false)(gM: ∀(u0:ae)(u1:Int),Sm (MV.i .i64) (dy YL ([av u0,.i .i64 u1]++ER)) (cmp u0 u1)):Sm (λr=> .cM [.i .i64 r.1,.b r.2]) (dO (.list (x.map av)) (.i .i64 target) (.func YL ER)) (da x target cmp):=by
 unfold dO da;refine aG (ap (zp (aK (ai (b6 (λr=>[.i .i64 r.1,.i .i64 r.2]) (λr=>(2,[.i .i64 r])) (rfl) λst=> ?_) λw=> ?_))))
 ·unfold ik;refine ej<|aJ ?_ ?_
  ·refine cG<|aU (f:=av) (rfl) λy=> ?_;refine ax (bX (A6 (bn (by rw [UA];rfl) ?_)));refine ai (gM y target) λrA=>ap<|ai (f:=(λr=>(0,[.i .i64 r.1,.i .i64 r.2]))) ?_ λw1=> ?_
   ·refine aJ ?_ ?_
    ·exact ah
    ·exact ah
   ·refine bn rfl (ej ah)
  ·exact ah
 ·refine bn rfl (af (ap (aC ?_)));refine ai (f:=λr=>[.i .i64 r.1,.b r.2]) ?_ λw2=> ?_
  ·refine aJ ?_ ?_
   ·refine aU (f:=av) (rfl) λy1=> ?_;refine ax (bX (A6 (bn (by rw [UA];rfl) ?_)));refine ai (gM y1 target) λaY=>ap ah
   ·exact ah
  ·refine af (ap (af (aE (aC ah))))
theorem Oa (n:aD)(sA:ak)(i:Int)(rA:ae):Sm (λr=> .gm ((λ_=> .cM []) r.1) (D6 r.2)) (sj (D6 n) (bT sA) (.i .i64 i) (av rA)) (ou n sA i rA):=by
 unfold sj ou;refine ax (ej (ap (ax (bX (aA (ai (oN n.cy rA.By ga (YL:=105) (ER:=[]) rfl (λu2 u3=>Sm.at (iX _ _) (Jp u2 u3))) λaY=> ?_))))));refine cu (af (ap (af (aE (aC ?_)))));refine ai (f:=λr=>[.b r]) ?_ λw=> ?_
 ·refine au ?_ ?_
  ·refine aJ ?_ ?_
   ·refine ai (BG sA rA.fP) λbH=>ap<|aJ ?_ ?_
    ·refine ai (Mi sA rA) λcr=>aE ah
    ·exact ah
   ·exact ah
  ·exact ah
 ·refine af (aE (aC (ai (f:=(λr=>(0,(v3 r)))) ?_ λw1=> ?_)))
  ·refine au ?_ ?_
   ·refine rY<|ai (B8 (size:=6) (f:=av) (λ_=>rfl) n.cy) λeU=>jA<|ai (Tt (f:=av) eU aY.1 ([rA]:List ae)) λkP=>jA ah
   ·exact ah
  ·refine bn rfl (aA ah)
theorem Z9 (sA:ak):Sm (MV.i .i64) (Ci (bT sA)) (yd sA):=by unfold Ci yd;refine ax (ej (ai (pI sA (4607182418800017408,0)) λrA=>ap ah))
theorem RO (lA:aq)(nA:Int)(value:List UInt8):Sm dM (tY (dM lA) (.i .i64 nA) (.s value)) (qv lA nA value):=by
 unfold tY qv;refine ax (cb (ap (dh (ai (Z9 lA.S) λrA=>ap (ai (AA lA lA (⟨nA,0,value⟩:aa) rA) λaY=>om (cb (cu (af (aE (af (dh (aC (ai (f:=(λr=>(0,(v7 r)))) ?_ λw=> ?_)))))))))))))
 ·refine au ?_ ?_
  ·exact ah
  ·exact ah
 ·refine bn rfl (cb ah)
theorem Mk (a:ak)(a1:Int)(a2:aD)(a3:aw):Sm (λr=> .cM [bL r.1,.list (r.2.map bw)]) (vu (bT a) (.i .i64 a1) (bL a2) (bw a3)) (eI a a1 a2 a3):=by
 unfold vu eI;refine ax (ej (ap (ax (aA (ax (bC (ai (f:=(BY (λr=>(2,(v1 r))) (λr=>(0,(v1 r))))) ?_ λw=> ?_)))))))
 ·refine aJ ?_ ?_
  ·refine ai (BG a a3.View) λrA=>ap<|au ?_ ?_
   ·exact ah
   ·refine ai (HD a2.A a3.View a3.Value a3.dX) λaY=>cu (af (ax (ca (af (ax (cP (af (aE (aC (ai (f:=(λr=>(0,[.list (r.map bw)]))) ?_ λw1=> ?_))))))))))
    ·refine au ?_ ?_
     ·refine eC (([(⟨2,0,0,([]:List UInt8),([]:List ae),aY.2.1,([]:List aa),(⟨0,0,false,0,([]:List UInt8),([]:List aa)⟩:ae)⟩:aw)]:List aw).length) (cG ah)
     ·exact ah
    ·refine bn rfl (af (aG (aC ah)))
  ·refine ai (f:=(λr=>(0,(v1 r)))) ?_ λw2=> ?_
   ·refine aJ ?_ ?_
    ·refine ai (N9 a2.A a3.fM) λbH=>cu (af (ax (ca (Uu (ai (f:=(λr=>(0,[.list (r.map bw)]))) ?_ λw3=> ?_)))))
     ·refine au ?_ ?_
      ·refine eC (([(⟨3,a1,0,([]:List UInt8),([]:List ae),(⟨0,0,([]:List UInt8)⟩:aa),bH.2.1,(⟨0,0,false,0,([]:List UInt8),([]:List aa)⟩:ae)⟩:aw)]:List aw).length) (cG ah)
      ·exact ah
     ·refine bn rfl (af (aG (aC (ai (HE a2.L a3.fM) λcr=>ax (cb ah)))))
    ·refine ai (f:=(λr=>(0,(v3 r)))) ?_ λw4=> ?_
     ·refine aJ ?_ ?_
      ·refine ai (Gw a2.L a3.dU a3.Proof) λeU=>ax (cb ah)
      ·refine ai (f:=(λr=>(0,(v3 r)))) ?_ λw5=> ?_
       ·refine aJ ?_ ?_
        ·refine ai (Oa a2 a a1 a3.R) λkP=>om (aA ah)
        ·refine ai (f:=(λr=>(0,(v3 r)))) ?_ λw6=> ?_
         ·refine aJ ?_ ?_
          ·refine ai (RO a2.L a3.dU a3.Value) λqm=>ax (cb ah)
          ·exact ah
         ·refine bn rfl (aA ah)
       ·refine bn rfl (aA ah)
     ·refine bn rfl (aA ah)
   ·refine bn rfl (eg ah)
 ·rcases w with p7|p8
  ·refine gD rfl (eg ?_);refine ai (f:=λr=>[.b r]) ?_ λw7=> ?_
   ·refine au ?_ ?_
    ·exact ah
    ·exact ah
   ·refine af (aE (aC (ai (f:=(λr=>(0,[.list (r.map bw)]))) ?_ λw8=> ?_)))
    ·refine au ?_ ?_
     ·refine aK (eC (([(⟨5,a1,0,p7.2.2.2.2.2.2.2.2.2.2.2.2.2.2.2.1,([]:List ae),(⟨0,0,([]:List UInt8)⟩:aa),([]:List aa),(⟨0,0,false,0,([]:List UInt8),([]:List aa)⟩:ae)⟩:aw)]:List aw).length) (cG ?_));exact dj (by simp [cD,br,al,bl,ay,bJ,v1,v3])
     ·exact ah
    ·refine bn rfl (af (aG (aC ah)))
  ·refine gE rfl (bn rfl (eg ?_));refine ai (f:=λr=>[.b r]) ?_ λw9=> ?_
   ·refine au ?_ ?_
    ·exact ah
    ·exact ah
   ·refine af (aE (aC (ai (f:=(λr=>(0,[.list (r.map bw)]))) ?_ λw10=> ?_)))
    ·refine au ?_ ?_
     ·refine aK (eC (([(⟨5,a1,0,p8.2.2.2.2.2.2.2.2.2.2.2.2.2.2.2.1,([]:List ae),(⟨0,0,([]:List UInt8)⟩:aa),([]:List aa),(⟨0,0,false,0,([]:List UInt8),([]:List aa)⟩:ae)⟩:aw)]:List aw).length) (cG ?_));exact dj (by simp [cD,br,al,bl,ay,bJ,v1,v3])
     ·exact ah
    ·refine bn rfl (af (aG (aC ah)))
theorem Ob (a:aj):Sm av (sk (cX a)) (xr a):=by unfold sk xr;refine ax (ca ah)
theorem Ml (a:aj)(view:Int):Sm (λr=> .cM [cX r.1,av r.2.1,.b r.2.2]) (qT (cX a) (.i .i64 view)) (mV a view):=by
 unfold qT mV;refine ax (ca (ap ?_));refine ai (f:=λr=>[.b r]) ?_ λw=> ?_
 ·refine aJ ?_ ?_
  ·exact ah
  ·exact ah
 ·refine af (aE (aC (au ?_ ?_)))
  ·exact ah
  ·refine ai (Ob (⟨a.S,a.Me,view,a.Has,a.At,a.Value,a.Proof,(⟨([]:List aa)⟩:az)⟩:aj)) λrA=>ax (bX ah)
theorem IB (x_:ak)(x_1:Int)(n:aD)(view:Int):Sm (λr=> .cM [bL r.1,.list (r.2.map bw)]) (s5 (bT x_) (.i .i64 x_1) (bL n) (.i .i64 view)) (pu x_ x_1 n view):=by
 unfold s5 pu;refine ax (ej (ap (ax (aA (ap (ai (Ml n.A view) λrA=>cu (af (ax (ca (af (ax (bX (af (aE (aC (au ?_ ?_))))))))))))))))
 ·exact ah
 ·refine rY ah
theorem Mm (a:ak)(a1:Int)(a2:aD)(a3:List UInt8):Sm (λr=> .cM [bL r.1,.list (r.2.map bw)]) (vv (bT a) (.i .i64 a1) (bL a2) (.s a3)) (iA a a1 a2 a3):=by
 unfold vv iA;refine ax (ej (ap (ax (aA (dh (ai (PQ a) λrA=>ap ?_))))));refine ai (f:=λr=>[.b r]) ?_ λw=> ?_
 ·refine ai (BG a a2.A.View) λaY=>ap<|au ?_ ?_
  ·exact ah
  ·exact ah
 ·refine af (aE (aC (au ?_ ?_)))
  ·exact ah
  ·refine ai (f:=λr=>[.b r]) ?_ λw1=> ?_
   ·refine aJ ?_ ?_
    ·refine aK ah
    ·exact ah
   ·refine af (aE (aC (au ?_ ?_)))
    ·exact ah
    ·refine ai (f:=(λr=>(0,(v4 r)))) ?_ λw2=> ?_
     ·refine aJ ?_ ?_
      ·refine aK (cG (ai (by simpa [al,ay,v4] using B8 (size:=6) (f:=av) (λ_=>rfl) (aaM (sh 0) (aaN (sh rA) a2.cy))) λbH=>jA (ai (Gu a bH) λcr=> ?_)));refine cu (Uv (ai (f:=(λr=>(0,(v4 r)))) ?_ λw3=> ?_))
       ·refine au ?_ ?_
        ·exact ah
        ·exact ah
       ·refine bn rfl (bC ah)
      ·exact ah
     ·refine bn rfl (bC (rY ah))
theorem Gx (c:aQ)(i:Int):Sm (λr=> .cM [.s r.1,.b r.2]) (qU (jB c) (.i .i64 i)) (jG c i):=by
 unfold qU jG;refine ax (bZ (ap ?_));refine ai (f:=λr=>[.b r]) ?_ λw=> ?_
 ·refine ai (jN c i false) λrA=>aE<|au ?_ ?_
  ·exact ah
  ·refine aU (f:=bL) (rfl) λy=>ax (aA ah)
 ·refine af (aE (aC (au ?_ ?_)))
  ·exact ah
  ·refine aU (f:=bL) (rfl) λy1=>ax (aA ah)
theorem yG (sA:aV):Sm MV.b (pG (cH sA)) (lL sA):=by
 unfold pG lL;refine ax (ej ?_);refine ai (f:=λr=>[.b r]) ?_ λw=> ?_
 ·refine aJ ?_ ?_
  ·refine aJ ?_ ?_
   ·refine aJ ?_ ?_
    ·exact ah
    ·exact ah
   ·exact ah
  ·exact ah
 ·refine af (aE (aC ah))
theorem Gy (sA:aV):Sm (MV.i .i64) (Ai (cH sA)) (sL sA):=by unfold Ai sL;refine ax (ej ah)
theorem RP (sA:aV)(me:Int):Sm (λr=> .cM [dE r.1,.i .i64 r.2]) (Ck (cH sA) (.i .i64 me)) (wG sA me):=by
 unfold Ck wG;refine ax (ej (ap ?_));refine ai (f:=λr=>[.b r]) ?_ λw=> ?_
 ·refine ai (yG sA) λrA=>aE<|au ?_ ?_
  ·exact ah
  ·refine aJ ?_ ?_
   ·exact ah
   ·refine ai (Gy sA) λaY=>ap ah
 ·refine af (aE (aC (au ?_ ?_)))
  ·exact ah
  ·exact ah
theorem YM (sA:aV):Sm (λr=> .cM [fe r.1,.i .i64 r.2]) (FW (cH sA)) (Ca sA):=by
 unfold FW Ca;refine ax (ej (ai (yG sA) λrA=>aE (au ?_ ?_)))
 ·exact ah
 ·exact ah
theorem aaa (sA:aV)(i:Int):Sm (λr=> .cM [fw r.1,.i .i64 r.2]) (Cl (cH sA) (.i .i64 i)) (rE sA i):=by
 unfold Cl rE;refine ax (ej (ap (ai (RP sA i) λrA=>cu (af (ax (ca (af (ap (aC (au ?_ ?_))))))))))
 ·exact ah
 ·refine ai (YM sA) λaY=>cu (af (ax (cb (af (ap (aC ah))))))
theorem rR (sA:ak):Sm cH (lO (bT sA)) (lM sA):=by unfold lO lM;refine ax (ej ah)
theorem vB (a:List aa)(b:List aa):Sm MV.b (oL (.list (a.map ab)) (.list (b.map ab))) (lB a b):=by
 unfold oL lB;refine aG (aG (aK (aK (au ?_ ?_))))
 ·exact ah
 ·refine ai (b6 (λr=>[.i .i64 r]) (BY (λr=>(2,[])) (λr=>(1,[.b r]))) (rfl) λst=> ?_) λw=> ?_
  ·unfold uY;refine af (ap (aC (aK (aJ ?_ ?_))))
   ·refine aU (f:=ab) (rfl) λy=>ax (cP (aU (f:=ab) (rfl) λy1=>ax (cP (au ?_ ?_))))
    ·exact ah
    ·exact ah
   ·exact ah
  ·rcases w with p1|p2
   ·refine gD rfl (aC ah)
   ·refine gE rfl (bn rfl (af (aE (aC ah))))
theorem aeK (a:aN)(b:aN):Sm MV.b (FX (dE a) (dE b)) (qw a b):=by
 unfold FX qw;refine ax (ca (ax (ca ?_)));refine ai (f:=λr=>[.b r]) ?_ λw=> ?_
 ·refine au ?_ ?_
  ·refine aJ ?_ ?_
   ·refine aJ ?_ ?_
    ·refine aJ ?_ ?_
     ·refine aJ ?_ ?_
      ·exact ah
      ·exact ah
     ·exact ah
    ·exact ah
   ·exact ah
  ·exact ah
 ·refine af (aE (aC ?_));refine ai (f:=λr=>[.b r]) ?_ λw1=> ?_
  ·refine au ?_ ?_
   ·refine ai (vB a.Proof b.Proof) λrA=>aE<|au ?_ ?_
    ·refine ai (vB a.bI.L b.bI.L) λaY=>aE ah
    ·exact ah
   ·exact ah
  ·refine af (aE (aC ah))
theorem aeL (a:bq)(b:bq):Sm MV.b (FY (fe a) (fe b)) (sM a b):=by
 unfold FY sM;refine ax (cb (ax (cb ?_)));refine ai (f:=λr=>[.b r]) ?_ λw=> ?_
 ·refine au ?_ ?_
  ·refine aJ ?_ ?_
   ·exact ah
   ·exact ah
  ·exact ah
 ·refine af (aE (aC ?_));refine ai (f:=λr=>[.b r]) ?_ λw1=> ?_
  ·refine au ?_ ?_
   ·refine ai (vB a.aO.L b.aO.L) λrA=>aE<|au ?_ ?_
    ·refine ai (vB a.aP.L b.aP.L) λaY=>aE<|au ?_ ?_
     ·refine ai (vB a.Told.L b.Told.L) λbH=>aE ah
     ·exact ah
    ·exact ah
   ·exact ah
  ·refine af (aE (aC ah))
theorem YN (a:ae)(b:ae):Sm MV.b (FZ (av a) (av b)) (zr a b):=by
 unfold FZ zr;refine ax (bX (ax (bX ?_)));refine ai (f:=λr=>[.b r]) ?_ λw=> ?_
 ·refine aJ ?_ ?_
  ·refine aJ ?_ ?_
   ·refine aJ ?_ ?_
    ·refine aJ ?_ ?_
     ·refine aJ ?_ ?_
      ·refine ai (vB a.Proof b.Proof) λrA=>aE ah
      ·exact ah
     ·exact ah
    ·exact ah
   ·exact ah
  ·exact ah
 ·refine af (aE (aC ah))
theorem UB (a:List ae)(b:List ae):Sm MV.b (Bt (.list (a.map av)) (.list (b.map av))) (qx a b):=by
 unfold Bt qx;refine aG (aG (aK (aK (au ?_ ?_))))
 ·exact ah
 ·refine ai (b6 (λr=>[.i .i64 r]) (BY (λr=>(2,[])) (λr=>(1,[.b r]))) (rfl) λst=> ?_) λw=> ?_
  ·unfold uZ;refine af (ap (aC (aK (aJ ?_ ?_))))
   ·refine aU (f:=av) (rfl) λy=>ax (bX (aU (f:=av) (rfl) λy1=>ax (bX (ai (YN y y1) λrA=>aE (au ?_ ?_)))))
    ·exact ah
    ·exact ah
   ·exact ah
  ·rcases w with p1|p2
   ·refine gD rfl (aC ah)
   ·refine gE rfl (bn rfl (af (aE (aC ah))))
theorem PR (x:cC)(y:cC):Sm MV.b (yD (fw x) (fw y)) (pv x y):=by
 unfold yD pv;refine ax (aA (ax (aA ?_)));refine ai (f:=λr=>[.b r]) ?_ λw=> ?_
 ·refine ai (aeK x.A y.A) λrA=>aE<|au ?_ ?_
  ·refine ai (aeL x.L y.L) λaY=>aE<|au ?_ ?_
   ·refine ai (UB x.cy y.cy) λbH=>aE<|au ?_ ?_
    ·exact ah
    ·exact ah
   ·exact ah
  ·exact ah
 ·refine af (aE (aC ah))
theorem UC (n:aD):Sm fw (Bu (bL n)) (Ba n):=by unfold Bu Ba;refine ax (aA (ai (rR n.A.S) λrA=>ax (ej (ai (rR n.L.S) λaY=>ax (ej ah)))))
theorem Ep (sA:aV)(view:Int):Sm (MV.i .i64) (rN (cH sA) (.i .i64 view)) (o9 sA view):=by unfold rN o9;refine ax (ej (ap (ai (Gy sA) λrA=>ap (tQ ah))))
theorem aeM (p:List aa):Sm (λr=> .cM (v11 r)) (LR (.list (p.map ab))) (K0 p):=by
 unfold LR K0;refine aG (aK (aJ ?_ ?_))
 ·exact ah
 ·refine aU (f:=ab) (rfl) λy=>ax (cP (aU (f:=ab) (rfl) λy1=>ax (cP ah)))
theorem aab (sA:aV):Sm (MV.i .i64) (Cm (cH sA)) (ye sA):=by unfold Cm ye;refine ax (ej ah)
theorem PS (a:aV)(a1:List ae):Sm (λr=> .cM [.s r.1,.b r.2]) (yE (cH a) (.list (a1.map av))) (ul a a1):=by
 unfold yE ul;refine ax (ej (aG (ai (b6 (λr=>[.i .i64 r.1,.s r.2.1,.i .i64 r.2.2]) (λr=>(2,[.i .i64 r.1,.s r.2])) (rfl) λst=> ?_) λw=> ?_)))
 ·unfold sN;refine af (ap (af (dh (af (ap (aC (aK (aJ ?_ ?_))))))))
  ·refine aU (f:=av) (rfl) λy=>ax (bX (ai (aeM y.Proof) λrA=>cu (vz ?_)));refine ai (f:=λr=>[.b r]) ?_ λw1=> ?_
   ·refine au ?_ ?_
    ·exact ah
    ·exact ah
   ·refine af (aE (aC (ai (f:=(λr=>(0,[.i .i64 r.1,.s r.2]))) ?_ λw2=> ?_)))
    ·refine au ?_ ?_
     ·exact ah
     ·exact ah
    ·refine bn rfl (af (ap (af (dh (aC ah)))))
  ·exact ah
 ·refine bn rfl (af (ap (af (dh (aC (ai (b6 (λr=>[.i .i64 r]) (BY (λr=>(4,[])) (λr=>(1,[.s r.1,.b r.2]))) (rfl) λdC=> ?_) λw3=> ?_))))))
  ·unfold wH;refine af (ap (aC (aK (aJ ?_ ?_))))
   ·refine ai (b6 (λr=>[.i .i64 r.1,.i .i64 r.2]) (λr=>(6,[.i .i64 r])) (rfl) λeM=> ?_) λw4=> ?_
    ·unfold sO;refine ej (aK (aJ ?_ ?_))
     ·refine ai (f:=λr=>[.b r]) ?_ λw5=> ?_
      ·refine aU (f:=av) (rfl) λy1=>ax (bX (au ?_ ?_))
       ·refine aU (f:=av) (rfl) λy2=>ax (bX (aJ ?_ ?_))
        ·refine aU (f:=av) (rfl) λy3=>ax (bX (au ?_ ?_))
         ·refine aU (f:=av) (rfl) λy4=>ax (bX (aJ ?_ ?_))
          ·refine aU (f:=av) (rfl) λy5=>ax (bX (aU (f:=av) (rfl) λy6=>ax (bX ah)))
          ·exact ah
         ·exact ah
        ·exact ah
       ·exact ah
      ·refine af (aE (aC (ai (f:=(λr=>(0,[.i .i64 r]))) ?_ λw6=> ?_)))
       ·refine au ?_ ?_
        ·exact ah
        ·exact ah
       ·refine bn rfl (af (ap (aC ah)))
     ·exact ah
    ·refine bn rfl (af (ap (aC (ai (aab a) λaY=>ap (aJ ?_ ?_)))))
     ·refine aU (f:=av) (rfl) λy7=>ax (bX ah)
     ·exact ah
   ·exact ah
  ·rcases w3 with p5|p6
   ·refine gD rfl (aC ah)
   ·refine gE rfl (bn rfl (Uv ah))
theorem UD (sA:aV):Sm (MV.i .i64) (Bv (cH sA)) (yf sA):=by unfold Bv yf;refine ax (ej ah)
theorem Gz (a:aa):Sm MV.b (wU (ab a)) (tT a):=by
 unfold wU tT;refine ax (cP ?_);refine ai (f:=λr=>[.b r]) ?_ λw=> ?_
 ·refine aJ ?_ ?_
  ·refine aJ ?_ ?_
   ·refine aJ ?_ ?_
    ·exact ah
    ·exact ah
   ·exact ah
  ·exact ah
 ·refine af (aE (aC ah))
theorem HF (sA:aV):Sm (MV.i .i64) (uu (cH sA)) (pw sA):=by unfold uu pw;refine ax (ej ah)
theorem HG (a:aV)(a1:List aa):Sm MV.b (uv (cH a) (.list (a1.map ab))) (kz a a1):=by
 unfold uv kz;refine ax (ej (aG ?_));refine ai (f:=λr=>[.b r]) ?_ λw=> ?_
 ·refine ai (yG a) λrA=>aE<|au ?_ ?_
  ·exact ah
  ·refine aK<|ai (HF a) λaY=>ap ah
 ·refine af (aE (aC (au ?_ ?_)))
  ·exact ah
  ·refine ai (b6 (λr=>[.i .i64 r]) (BY (λr=>(2,[])) (λr=>(1,[.b r]))) (rfl) λst=> ?_) λw1=> ?_
   ·unfold wI;refine af (ap (aC (aK (aJ ?_ ?_))))
    ·refine aU (f:=ab) (rfl) λy=>ax (cP ?_);refine ai (f:=λr=>[.b r]) ?_ λw2=> ?_
     ·refine ai (Gz y) λbH=>aE<|au ?_ ?_
      ·exact ah
      ·refine ai (Gy a) λcr=>ap<|aJ ?_ ?_
       ·exact ah
       ·refine aU (f:=ab) (rfl) λy1=>ax (cP (au ?_ ?_))
        ·exact ah
        ·refine aU (f:=ab) (rfl) λy2=>ax (cP (au ?_ ?_))
         ·exact ah
         ·refine aJ ?_ ?_
          ·refine aU (f:=ab) (rfl) λy3=>ax (cP ah)
          ·exact ah
     ·refine af (aE (aC (au ?_ ?_)))
      ·exact ah
      ·exact ah
    ·exact ah
   ·rcases w1 with p1|p2
    ·refine gD rfl (aC ah)
    ·refine gE rfl (bn rfl (af (aE (aC ah))))
theorem YO (a:aV)(a1:ae):Sm MV.b (F5 (cH a) (av a1)) (Cb a a1):=by
 unfold F5 Cb;refine ax (ej (ax (bX ?_)));refine ai (f:=λr=>[.b r]) ?_ λw=> ?_
 ·refine ai (yG a) λrA=>aE<|au ?_ ?_
  ·exact ah
  ·refine aJ ?_ ?_
   ·exact ah
   ·refine ai (Gy a) λaY=>ap<|aJ ?_ ?_
    ·exact ah
    ·refine aJ ?_ ?_
     ·exact ah
     ·exact ah
 ·refine af (aE (aC (au ?_ ?_)))
  ·exact ah
  ·refine ai (f:=λr=>[.b r]) ?_ λw1=> ?_
   ·refine au ?_ ?_
    ·refine aJ ?_ ?_
     ·exact ah
     ·refine aJ ?_ ?_
      ·exact ah
      ·refine aJ ?_ ?_
       ·exact ah
       ·refine au ?_ ?_
        ·refine au ?_ ?_
         ·exact ah
         ·exact ah
        ·exact ah
    ·refine au ?_ ?_
     ·refine au ?_ ?_
      ·exact ah
      ·exact ah
     ·exact ah
   ·refine af (aE (aC (au ?_ ?_)))
    ·exact ah
    ·refine ai (f:=λr=>[.b r]) ?_ λw2=> ?_
     ·refine aK<|aJ ?_ ?_
      ·exact ah
      ·refine ai (HG a a1.Proof) λbH=>aE<|au ?_ ?_
       ·refine aU (f:=ab) (rfl) λy=>ax (cP ah)
       ·exact ah
     ·refine af (aE (aC ah))
theorem aac (sA:aV)(view:Int)(lA:List ae):Sm MV.b (Cn (cH sA) (.i .i64 view) (.list (lA.map av))) (yg sA view lA):=by
 unfold Cn yg;refine ax (ej (ap (aG ?_)));refine ai (f:=λr=>[.b r]) ?_ λw=> ?_
 ·refine ai (yG sA) λrA=>aE<|au ?_ ?_
  ·exact ah
  ·refine aK<|ai (UD sA) λaY=>ap ah
 ·refine af (aE (aC (au ?_ ?_)))
  ·exact ah
  ·refine ai (b6 (λr=>[.i .i64 r]) (BY (λr=>(2,[])) (λr=>(1,[.b r]))) (rfl) λst=> ?_) λw1=> ?_
   ·unfold wJ;refine af (ap (aC (aK (aJ ?_ ?_))))
    ·refine ai (f:=λr=>[.b r]) ?_ λw2=> ?_
     ·refine aU (f:=av) (rfl) λy=>ax (bX (ai (YO sA y) λbH=>aE (au ?_ ?_)))
      ·exact ah
      ·refine aU (f:=av) (rfl) λy1=>ax (bX (au ?_ ?_))
       ·exact ah
       ·refine aJ ?_ ?_
        ·refine aU (f:=av) (rfl) λy2=>ax (bX (aU (f:=av) (rfl) λy3=>ax (bX ah)))
        ·exact ah
     ·refine af (aE (aC (au ?_ ?_)))
      ·exact ah
      ·exact ah
    ·exact ah
   ·rcases w1 with p1|p2
    ·refine gD rfl (aC ah)
    ·refine gE rfl (bn rfl (af (aE (aC ah))))
theorem IC (sA:aV)(view:Int)(lA:List ae)(value:List UInt8):Sm MV.b (s6 (cH sA) (.i .i64 view) (.list (lA.map av)) (.s value)) (ia sA view lA value):=by
 unfold s6 ia;refine ax (ej (ap (aG (dh (ai (aac sA view lA) λrA=>aE (au ?_ ?_))))))
 ·exact ah
 ·refine ai (PS sA lA) λaY=>cu (Uv ?_);refine ai (f:=λr=>[.b r]) ?_ λw=> ?_
  ·refine au ?_ ?_
   ·exact ah
   ·exact ah
  ·refine af (aE (aC ah))
theorem UE (a:aN)(view:Int)(value:List UInt8)(jE:List ae):Sm (λr=> .cM [dE r.1,ab r.2.1,.b r.2.2]) (wV (dE a) (.i .i64 view) (.s value) (.list (jE.map av))) (sP a view value jE):=by
 unfold wV sP;refine ax (ca (ap (dh (aG ?_))));refine ai (f:=λr=>[.b r]) ?_ λw=> ?_
 ·refine aJ ?_ ?_
  ·refine aK ah
  ·exact ah
 ·refine af (aE (aC ?_));refine ai (f:=λr=>[.b r]) ?_ λw1=> ?_
  ·refine au ?_ ?_
   ·exact ah
   ·refine au ?_ ?_
    ·refine aJ ?_ ?_
     ·exact ah
     ·refine aJ ?_ ?_
      ·exact ah
      ·refine au ?_ ?_
       ·refine ai (IC a.S view jE value) λrA=>aE ah
       ·exact ah
    ·refine aJ ?_ ?_
     ·exact ah
     ·refine au ?_ ?_
      ·refine ai (IC a.S view jE value) λaY=>aE ah
      ·exact ah
  ·refine af (aE (aC (au ?_ ?_)))
   ·exact ah
   ·exact ah
theorem JJ (a:aL)(a1:aa):Sm (λr=> .cM [jC r.1,.b r.2]) (zK (jC a) (ab a1)) (oS a a1):=by
 unfold zK oS;refine ax (af (aG (aC (ax (cP (ai (Gz a1) λrA=>aE (au ?_ ?_)))))))
 ·exact ah
 ·refine ai (b6 (λr=>[.list (r.1.map ab),.list (r.2.1.map ab),.b r.2.2.1,.i .i64 r.2.2.2]) (BY (λr=>(2,[.list (r.1.map ab),.list (r.2.1.map ab),.b r.2.2])) (λr=>(1,[.list (r.1.map ab),.b r.2]))) (rfl) λst=> ?_) λw=> ?_
  ·unfold yh;refine af (aG (af (aG (af (aE (af (ap (aC (aK (aJ ?_ ?_))))))))))
   ·refine aU (f:=ab) (rfl) λy=>ax (cP ?_);refine ai (f:=λr=>[.b r]) ?_ λw1=> ?_
    ·refine aJ ?_ ?_
     ·exact ah
     ·exact ah
    ·refine af (aE (aC (au ?_ ?_)))
     ·exact ah
     ·refine ai (f:=λr=>[.b r]) ?_ λw2=> ?_
      ·refine au ?_ ?_
       ·exact ah
       ·exact ah
      ·refine af (aE (aC (ai (f:=(λr=>(0,[.list (r.1.map ab),.b r.2]))) ?_ λw3=> ?_)))
       ·refine au ?_ ?_
        ·refine aK (eC (([a1]:List aa).length) (cG (dj (by simp))))
        ·exact ah
       ·refine bn rfl (Uu (ai (f:=(λr=>(0,[.list (r.map ab)]))) ?_ λw4=> ?_))
        ·refine au ?_ ?_
         ·refine aK (eC (([y]:List aa).length) (cG (dj (by simp))))
         ·exact ah
        ·refine bn rfl (af (aG (aC ah)))
   ·exact ah
  ·rcases w with p3|p4
   ·refine gD rfl (Mc (ai (f:=(λr=>(0,[.list (r.map ab)]))) ?_ λw5=> ?_))
    ·refine au ?_ ?_
     ·refine aK (eC (([a1]:List aa).length) (cG (dj (by simp))))
     ·exact ah
    ·refine bn rfl (af (aG (aC ah)))
   ·refine gE rfl (bn rfl (Uu ah))
theorem Mn (t:aL)(view:Int)(value:List UInt8):Sm (I3 ab) (vw (jC t) (.i .i64 view) (.s value)) (rF t view value):=by
 unfold vw rF;refine ax (af (aG (aC (ap (dh (ai (b6 (λr=>[.list (r.1.map ab),.i .i64 r.2]) (λr=>(2,[.list (r.map ab)])) (rfl) λst=> ?_) λw=> ?_))))))
 ·unfold qy;refine n8 (aK (aJ ?_ ?_))
  ·refine ai (f:=λr=>[.b r]) ?_ λw1=> ?_
   ·refine aU (f:=ab) (rfl) λy=>ax (cP (aJ ?_ ?_))
    ·refine aU (f:=ab) (rfl) λy1=>ax (cP ah)
    ·exact ah
   ·refine af (aE (aC (ai (f:=(λr=>(0,[.list (r.map ab)]))) ?_ λw2=> ?_)))
    ·refine au ?_ ?_
     ·refine aU (f:=ab) (rfl) λy2=>ax (cP (aK (eC (([y2]:List aa).length) (cG (dj (by simp))))))
     ·exact ah
    ·refine bn rfl (af (aG (aC ah)))
  ·exact ah
 ·refine bn rfl (af (aG (aC ah)))
theorem aad (t:aL)(view:Int)(value:List UInt8):Sm (MV.i .i64) (Co (jC t) (.i .i64 view) (.s value)) (yi t view value):=by unfold Co yi;refine ax (af (aG (aC (ap (dh (ai (Mn t view value) λrA=>aG (aK ah)))))))
theorem UF (t:aL)(bY:Int):Sm (λr=> .cM (v11 r)) (Bw (jC t) (.i .i64 bY)) (yj t bY):=by
 unfold Bw yj;refine ax (af (aG (aC (ap (ai (b6 (λr=>[.i .i64 r.1,.i .i64 r.2]) (λr=>(2,[.i .i64 r])) (rfl) λst=> ?_) λw=> ?_)))))
 ·unfold u5;refine ej ?_;refine ai (f:=λr=>[.b r]) ?_ λw1=> ?_
  ·refine aK<|aJ ?_ ?_
   ·exact ah
   ·exact ah
  ·refine af (aE (aC (au ?_ ?_)))
   ·refine aU (f:=ab) (rfl) λy=>ax (cP ?_);refine ai (f:=λr=>[.b r]) ?_ λw2=> ?_
    ·refine ai (aad t y.View y.Value) λrA=>ap<|aJ ?_ ?_
     ·refine aJ ?_ ?_
      ·exact ah
      ·refine aU (f:=ab) (rfl) λy1=>ax (cP ah)
     ·exact ah
    ·refine af (aE (aC (ai (f:=(λr=>(0,[.i .i64 r]))) ?_ λw3=> ?_)))
     ·refine au ?_ ?_
      ·exact ah
      ·exact ah
     ·refine bn rfl (af (ap (aC ah)))
   ·exact ah
 ·refine bn rfl (af (ap (aC (aJ ?_ ?_))))
  ·exact ah
  ·refine aU (f:=ab) (rfl) λy2=>ax (cP (aU (f:=ab) (rfl) λy3=>ax (cP ah)))
theorem aeN (sA:aV)(t:aL):Sm (λr=> .cM [.list (r.1.map ab),.b r.2]) (F6 (cH sA) (jC t)) (Bb sA t):=by
 unfold F6 Bb;refine ax (ej (ax (af (aG (aC (ai (HF sA) λrA=>ap (ai (UF t rA) λaY=>cu (vz (au ?_ ?_)))))))))
 ·exact ah
 ·refine ai (Mn t aY.1 aY.2.1) λbH=>aG (aK (cG (dj (by first|(simp;done)|simp only [ab,cH,jC,sF,B9,KY,AI,IN,aav,IS,IT,aay]))))
theorem aeO (a:aN)(a1:aa):Sm (λr=> .cM [dE r.1,.list (r.2.1.map ab),.b r.2.2]) (F7 (dE a) (ab a1)) (Bc a a1):=by
 unfold F7 Bc;refine ax (ca (ax (cP ?_)));refine ai (f:=λr=>[.b r]) ?_ λw=> ?_
 ·refine ai (Gz a1) λrA=>aE<|au ?_ ?_
  ·exact ah
  ·refine ai (Gy a.S) λaY=>ap<|aJ ?_ ?_
   ·exact ah
   ·exact ah
 ·refine af (aE (aC (au ?_ ?_)))
  ·exact ah
  ·refine ai (JJ a.bI a1) λbH=>cu (af (ax (af (aG (aC (af (aE (aC (ai (aeN a.S bH.1) λcr=>cu (Uu (ai (aeM a.Proof) λeU=>cu (vz ?_))))))))))));refine ai (f:=λr=>[.b r]) ?_ λw1=> ?_
   ·refine au ?_ ?_
    ·exact ah
    ·refine aU (f:=ab) (rfl) λy=>ax (cP ah)
   ·refine af (aE (aC (au ?_ ?_)))
    ·exact ah
    ·exact ah
theorem BI (lA:bq)(t:aL)(bY:Int):Sm fe (pH (fe lA) (jC t) (.i .i64 bY)) (iP lA t bY):=by
 unfold pH iP;refine ax (cb (ax (af (aG (aC (ap (ai (UF t bY) λrA=>cu (vz (ai (f:=(λr=>(0,(v7 r)))) ?_ λw=> ?_)))))))))
 ·refine au ?_ ?_
  ·exact ah
  ·exact ah
 ·refine bn rfl (cb ah)
theorem aeP (sA:aV):Sm (MV.i .i64) (F8 (cH sA)) (yk sA):=by unfold F8 yk;refine ax (ej ah)
theorem RQ (lA:bq)(a:aa):Sm fe (tZ (fe lA) (ab a)) (qz lA a):=by
 unfold tZ qz;refine ax (cb (ax (cP ?_)));refine ai (f:=λr=>[.b r]) ?_ λw=> ?_
 ·refine au ?_ ?_
  ·exact ah
  ·refine ai (Gy lA.S) λrA=>ap ah
 ·refine af (aE (aC (au ?_ ?_)))
  ·exact ah
  ·refine ai (JJ lA.aO a) λaY=>cu (af (ax (af (aG (aC (af (aE (aC (ai (Gz a) λbH=>aE (au ?_ ?_))))))))))
   ·exact ah
   ·refine ai (aeP lA.S) λcr=>ap<|ai (BI (⟨lA.S,aY.1,lA.aP,lA.Told,lA.bE,lA.Value⟩:bq) aY.1 cr) λeU=>ax (cb ah)
theorem Oc (lA:bq)(nA:Int)(p:List aa):Sm fe (sm (fe lA) (.i .i64 nA) (.list (p.map ab))) (ov lA nA p):=by
 unfold sm ov;refine ax (cb (ap (aG ?_)));refine ai (f:=λr=>[.b r]) ?_ λw=> ?_
 ·refine au ?_ ?_
  ·exact ah
  ·refine aJ ?_ ?_
   ·exact ah
   ·refine ai (Gy lA.S) λrA=>ap<|aJ ?_ ?_
    ·exact ah
    ·refine ai (HG lA.S p) λaY=>aE ah
 ·refine af (aE (aC (au ?_ ?_)))
  ·exact ah
  ·refine aU (f:=ab) (rfl) λy=>ax (cP (aU (f:=ab) (rfl) λy1=>ax (cP (ai (JJ lA.aP (⟨nA,y.View,y1.Value⟩:aa)) λbH=>cu (af (ax (af (aG (aC (af (aE (aC ?_))))))))))));refine ai (HF lA.S) λcr=>ap<|ai (BI (⟨lA.S,lA.aO,bH.1,lA.Told,lA.bE,lA.Value⟩:bq) bH.1 cr) λeU=>ax (cb ah)
theorem ahH (a:aV)(a1:Int)(a2:cC)(a3:ae):Sm (I3 av) (JH (cH a) (.i .i64 a1) (fw a2) (av a3)) (Fj a a1 a2 a3):=by
 unfold JH Fj;refine ax (ej (ap (ax (aA (ax (bX ?_))))));refine ai (f:=λr=>[.b r]) ?_ λw=> ?_
 ·refine au ?_ ?_
  ·exact ah
  ·refine ai (Ep a a3.fP) λrA=>ap<|au ?_ ?_
   ·exact ah
   ·refine ai (YO a a3) λaY=>aE ah
 ·refine af (aE (aC (au ?_ ?_)))
  ·exact ah
  ·refine ai (b6 (λr=>[.list (r.1.map av),.b r.2.1,.i .i64 r.2.2]) (BY (λr=>(2,[.list (r.1.map av),.b r.2])) (λr=>(1,[.list (r.map av)]))) (rfl) λst=> ?_) λw1=> ?_
   ·unfold yl;refine af (aG (af (aE (af (ap (aC (aK (aJ ?_ ?_))))))))
    ·refine aU (f:=av) (rfl) λy=>ax (bX (aJ ?_ ?_))
     ·exact ah
     ·refine ai (f:=λr=>[.b r]) ?_ λw2=> ?_
      ·refine au ?_ ?_
       ·refine aU (f:=av) (rfl) λy1=>ax (bX ah)
       ·exact ah
      ·refine af (aE (aC (ai (f:=(λr=>(0,[.list (r.1.map av),.b r.2]))) ?_ λw3=> ?_)))
       ·refine au ?_ ?_
        ·refine aK (eC (([a3]:List ae).length) (cG (dj (by simp [cD]))))
        ·exact ah
       ·refine bn rfl (Uu (aU (f:=av) (rfl) λy2=>ax (bX (aK (eC (([y2]:List ae).length) (cG (dj (by simp [cD]))))))))
    ·exact ah
   ·rcases w1 with p2|p3
    ·refine gD rfl (Uu (ai (f:=(λr=>(0,[.list (r.map av)]))) ?_ λw4=> ?_))
     ·refine au ?_ ?_
      ·refine aK (eC (([a3]:List ae).length) (cG (dj (by simp [cD]))))
      ·exact ah
     ·refine bn rfl (af (aG (aC ah)))
    ·refine gE rfl (bn rfl (af (aG (aC ah))))
theorem aeQ (sA:aV):Sm (MV.i .i64) (Gb (cH sA)) (ym sA):=by unfold Gb ym;refine ax (ej ah)
theorem aeR (lA:bq)(nA:Int)(value:List UInt8):Sm fe (Gc (fe lA) (.i .i64 nA) (.s value)) (Bd lA nA value):=by
 unfold Gc Bd;refine ax (cb (ap (dh ?_)));refine ai (f:=λr=>[.b r]) ?_ λw=> ?_
 ·refine au ?_ ?_
  ·exact ah
  ·refine aJ ?_ ?_
   ·exact ah
   ·refine ai (Gy lA.S) λrA=>ap<|aJ ?_ ?_
    ·exact ah
    ·exact ah
 ·refine af (aE (aC (au ?_ ?_)))
  ·exact ah
  ·refine ai (JJ lA.Told (⟨nA,0,value⟩:aa)) λaY=>cu (af (ax (af (aG (aC (af (aE (aC (ai (aeQ lA.S) λbH=>ap (ai (BI (⟨lA.S,lA.aO,lA.aP,aY.1,lA.bE,lA.Value⟩:bq) aY.1 bH) λcr=> ?_))))))))));refine ax (cb ah)
theorem aae (a:aV)(a1:Int)(a2:cC)(a3:bF):Sm (λr=> .cM [fw r.1,.list (r.2.map dY)]) (Cp (cH a) (.i .i64 a1) (fw a2) (dY a3)) (kA a a1 a2 a3):=by
 unfold Cp kA;refine ax (ej (ap (ax (aA (ax (bC (ai (f:=(λr=>(0,(v2 r)))) ?_ λw=> ?_)))))))
 ·refine aJ ?_ ?_
  ·refine ai (Ep a a3.View) λrA=>ap<|ai (f:=(λr=>(0,(v2 r)))) ?_ λw1=> ?_
   ·refine aJ ?_ ?_
    ·refine ai (UE a2.A a3.View a3.Value a3.dX) λaY=>cu (af (ax (ca (af (ax (cP (af (aE (aC (ai (f:=(λr=>(0,[.list (r.map dY)]))) ?_ λw2=> ?_))))))))))
     ·refine au ?_ ?_
      ·refine eC (([]:List bF).length) (eC (([(⟨2,0,0,([]:List UInt8),([]:List ae),aY.2.1,([]:List aa),(⟨0,0,false,0,([]:List UInt8),([]:List aa)⟩:ae)⟩:bF)]:List bF).length) (cG ?_));exact dj (by simp [cD,br,al,bl,ay,bJ,v2,v3])
      ·exact ah
     ·refine bn rfl (af (aG (aC ah)))
    ·exact ah
   ·refine bn rfl (eg ah)
  ·refine ai (f:=(λr=>(0,(v2 r)))) ?_ λw3=> ?_
   ·refine aJ ?_ ?_
    ·refine ai (aeO a2.A a3.fM) λbH=>cu (af (ax (ca (Uu (ai (f:=(λr=>(0,[.list (r.map dY)]))) ?_ λw4=> ?_)))))
     ·refine au ?_ ?_
      ·refine eC (([]:List bF).length) (eC (([(⟨3,a1,0,([]:List UInt8),([]:List ae),(⟨0,0,([]:List UInt8)⟩:aa),bH.2.1,(⟨0,0,false,0,([]:List UInt8),([]:List aa)⟩:ae)⟩:bF)]:List bF).length) (cG ?_));exact dj (by simp [cD,br,al,bl,ay,bJ,v2,v3])
      ·exact ah
     ·refine bn rfl (af (aG (aC (ai (RQ a2.L a3.fM) λcr=>ax (cb ah)))))
    ·refine ai (f:=(λr=>(0,(v3 r)))) ?_ λw5=> ?_
     ·refine aJ ?_ ?_
      ·refine ai (Oc a2.L a3.dU a3.Proof) λeU=>ax (cb ah)
      ·refine ai (f:=(λr=>(0,(v3 r)))) ?_ λw6=> ?_
       ·refine aJ ?_ ?_
        ·refine ai (ahH a a1 a2 a3.R) λkP=>aG ah
        ·refine ai (f:=(λr=>(0,(v3 r)))) ?_ λw7=> ?_
         ·refine aJ ?_ ?_
          ·refine ai (aeR a2.L a3.dU a3.Value) λqm=>ax (cb ah)
          ·exact ah
         ·refine bn rfl (aA ah)
       ·refine bn rfl (aA ah)
     ·refine bn rfl (aA ah)
   ·refine bn rfl (eg ah)
 ·refine bn rfl (eg ?_);refine ai (f:=λr=>[.b r]) ?_ λw8=> ?_
  ·refine au ?_ ?_
   ·exact ah
   ·exact ah
  ·refine af (aE (aC (ai (f:=(λr=>(0,[.list (r.map dY)]))) ?_ λw9=> ?_)))
   ·refine au ?_ ?_
    ·refine aK (eC (([(⟨5,a1,0,w.2.2.2.2.2.2.2.2.2.2.2.2.2.2.2.1,([]:List ae),(⟨0,0,([]:List UInt8)⟩:aa),([]:List aa),(⟨0,0,false,0,([]:List UInt8),([]:List aa)⟩:ae)⟩:bF)]:List bF).length) (cG ?_));exact dj (by simp [cD,br,al,bl,ay,bJ,v2,v3])
    ·exact ah
   ·refine bn rfl (af (aG (aC ah)))
theorem YP (m:aw):Sm dY (Gd (bw m)) (Fk m):=by unfold Gd Fk;refine ax (bC ah)
theorem aeS (a:aN):Sm av (Ge (dE a)) (K1 a):=by unfold Ge K1;refine ax (ca ah)
theorem aaf (a:aN)(view:Int):Sm (λr=> .cM [dE r.1,av r.2.1,.b r.2.2]) (Cq (dE a) (.i .i64 view)) (yn a view):=by
 unfold Cq yn;refine ax (ca (ap ?_));refine ai (f:=λr=>[.b r]) ?_ λw=> ?_
 ·refine aJ ?_ ?_
  ·exact ah
  ·exact ah
 ·refine af (aE (aC (au ?_ ?_)))
  ·exact ah
  ·refine ai (aeS (⟨a.S,a.Me,view,a.Has,a.At,a.Value,a.Proof,(⟨([]:List aa)⟩:aL)⟩:aN)) λrA=>ax (bX ah)
theorem WR (sA:aV)(i:Int)(n:cC)(view:Int):Sm (λr=> .cM [fw r.1,.list (r.2.map dY)]) (zL (cH sA) (.i .i64 i) (fw n) (.i .i64 view)) (u6 sA i n view):=by
 unfold zL u6;refine ax (ej (ap (ax (aA (ap (ai (aaf n.A view) λrA=>cu (af (ax (ca (af (ax (bX (af (aE (aC (au ?_ ?_))))))))))))))))
 ·exact ah
 ·refine rY ah
theorem aag (sA:aV)(i:Int)(n:cC)(want:List UInt8):Sm (λr=> .cM [fw r.1,.list (r.2.map dY)]) (Cr (cH sA) (.i .i64 i) (fw n) (.s want)) (pz sA i n want):=by
 unfold Cr pz;refine ax (ej (ap (ax (aA (dh ?_)))));refine ai (f:=λr=>[.b r]) ?_ λw=> ?_
 ·refine ai (Ep sA n.A.View) λrA=>ap<|au ?_ ?_
  ·exact ah
  ·exact ah
 ·refine af (aE (aC (au ?_ ?_)))
  ·exact ah
  ·refine ai (f:=(BY (λr=>(1,(v2 r))) (λr=>(0,[.i .i64 r.1,.i .i64 r.2.1,.i .i64 r.2.2.1,.i .i64 r.2.2.2.1,.b r.2.2.2.2.1,.i .i64 r.2.2.2.2.2.1,.s r.2.2.2.2.2.2.1,.list (r.2.2.2.2.2.2.2.1.map ab),.list (r.2.2.2.2.2.2.2.2.1.map ab),.i .i64 r.2.2.2.2.2.2.2.2.2.1,.i .i64 r.2.2.2.2.2.2.2.2.2.2.1,.list (r.2.2.2.2.2.2.2.2.2.2.2.1.map ab),.list (r.2.2.2.2.2.2.2.2.2.2.2.2.1.map ab),.list (r.2.2.2.2.2.2.2.2.2.2.2.2.2.1.map ab),.b r.2.2.2.2.2.2.2.2.2.2.2.2.2.2.1,.s r.2.2.2.2.2.2.2.2.2.2.2.2.2.2.2.1,.list (r.2.2.2.2.2.2.2.2.2.2.2.2.2.2.2.2.1.map av),.i .i64 r.2.2.2.2.2.2.2.2.2.2.2.2.2.2.2.2.2.1,.i .i64 r.2.2.2.2.2.2.2.2.2.2.2.2.2.2.2.2.2.2.1,.i .i64 r.2.2.2.2.2.2.2.2.2.2.2.2.2.2.2.2.2.2.2.1,.i .i64 r.2.2.2.2.2.2.2.2.2.2.2.2.2.2.2.2.2.2.2.2.1,.s r.2.2.2.2.2.2.2.2.2.2.2.2.2.2.2.2.2.2.2.2.2.1,.list (r.2.2.2.2.2.2.2.2.2.2.2.2.2.2.2.2.2.2.2.2.2.2.1.map av),.i .i64 r.2.2.2.2.2.2.2.2.2.2.2.2.2.2.2.2.2.2.2.2.2.2.2.1,.i .i64 r.2.2.2.2.2.2.2.2.2.2.2.2.2.2.2.2.2.2.2.2.2.2.2.2.1,.s r.2.2.2.2.2.2.2.2.2.2.2.2.2.2.2.2.2.2.2.2.2.2.2.2.2.1,.list (r.2.2.2.2.2.2.2.2.2.2.2.2.2.2.2.2.2.2.2.2.2.2.2.2.2.2.1.map ab),.i .i64 r.2.2.2.2.2.2.2.2.2.2.2.2.2.2.2.2.2.2.2.2.2.2.2.2.2.2.2.1,.i .i64 r.2.2.2.2.2.2.2.2.2.2.2.2.2.2.2.2.2.2.2.2.2.2.2.2.2.2.2.2.1,.b r.2.2.2.2.2.2.2.2.2.2.2.2.2.2.2.2.2.2.2.2.2.2.2.2.2.2.2.2.2.1,.i .i64 r.2.2.2.2.2.2.2.2.2.2.2.2.2.2.2.2.2.2.2.2.2.2.2.2.2.2.2.2.2.2.1,.s r.2.2.2.2.2.2.2.2.2.2.2.2.2.2.2.2.2.2.2.2.2.2.2.2.2.2.2.2.2.2.2.1,.list (r.2.2.2.2.2.2.2.2.2.2.2.2.2.2.2.2.2.2.2.2.2.2.2.2.2.2.2.2.2.2.2.2.map ab)])))) ?_ λw1=> ?_
   ·refine aJ ?_ ?_
    ·refine ai (UD sA) λaY=>ap (aK (aJ ?_ ?_))
     ·exact ah
     ·refine aK (cG (ai (by simpa [al,bl,ay,v2,v4] using PS sA (aaM (sh 0) (aaN (sh aY) n.cy))) λbH=>cu (Uv (ai (f:=(λr=>(0,(v4 r)))) ?_ λw2=> ?_))))
      ·refine au ?_ ?_
       ·exact dj (by first|(simp [al,bl,ay,v2,v4];done)|simp only [al,bl,ay,v2,v4,ab,av,cH,dY,fw,sF,A7,B9,KZ,Hh,AI,IN,aav,IS,IT,aay])
       ·exact dj (by first|(simp [al,bl,ay,v2,v4];done)|simp only [al,bl,ay,v2,v4,ab,av,cH,dY,fw,sF,A7,B9,KZ,Hh,AI,IN,aav,IS,IT,aay])
      ·refine bn rfl (bC ah)
    ·exact ah
   ·rcases w1 with p2|p3
    ·refine gD rfl (eg ah)
    ·refine gE rfl (bn rfl (af (ap (af (ap (af (ap (af (ap (af (aE (af (ap (af (dh (af (aG (af (aG (af (ap (af (ap (af (aG (af (aG (af (aG (af (aE (af (dh (af (aG ?_)))))))))))))))))))))))))))))))))));refine af (ap (bC (rY ah)))
theorem UG (b:List Int):Sm (λr=> .cM [.i .u64 r.1,.list (r.2.1.map (MV.i .u8)),.i .i64 r.2.2]) (Bx (.list (b.map (MV.i .u8)))) (yo b):=by
 unfold Bx yo;refine aG (aK (aJ ?_ ?_))
 ·exact ah
 ·refine aU (f:=(MV.i .u8)) (rfl) λy=>ap ?_;refine ai (f:=λr=>[.b r]) ?_ λw=> ?_
  ·refine aJ ?_ ?_
   ·exact ah
   ·refine aJ ?_ ?_
    ·refine aK<|aJ ?_ ?_
     ·refine aU (f:=(MV.i .u8)) (rfl) λy1=>ap ah
     ·exact ah
    ·exact ah
  ·refine af (aE (aC (au ?_ ?_)))
   ·exact ah
   ·refine aK<|aJ ?_ ?_
    ·exact ah
    ·refine ai (b6 (λr=>[.i .u64 r.1,.i .i64 r.2]) (λr=>(2,[.i .u64 r])) (rfl) λst=> ?_) λw1=> ?_
     ·unfold u7;refine ej<|aJ ?_ ?_
      ·refine aU (f:=(MV.i .u8)) (rfl) λy2=>ap ah
      ·exact ah
     ·refine bn rfl (af (ap (aC (bn (rZ (rfl:_=aaO (MV.i .u8) b) λ_=>rfl) (aK (cG (dj (by first|(simp;done)|simp only [AI,IN,aav,IS,IT,aay]))))))))
theorem UH (b:List Int):Sm (λr=> .cM (v9 r)) (wW (.list (b.map (MV.i .u8)))) (sQ b):=by
 unfold wW sQ;refine aG<|ai (UG b) λrA=>cu (Iz (au ?_ ?_))
 ·exact ah
 ·refine tQ<|aJ ?_ ?_
  ·refine tQ ah
  ·refine tQ ah
theorem CA (b:List Int)(many:Int):Sm (λr=> .cM [.list (r.1.map (MV.i .i64)),.list (r.2.1.map (MV.i .u8)),.b r.2.2]) (rO (.list (b.map (MV.i .u8))) (.i .i64 many)) (pB b many):=by
 unfold rO pB;refine aG (ap (ai (b6 (λr=>[.list (r.1.map (MV.i .u8)),.list (r.2.1.map (MV.i .i64)),.i .i64 r.2.2]) (BY (λr=>(2,[.list (r.1.map (MV.i .u8)),.list (r.2.map (MV.i .i64))])) (λr=>(1,[.list (r.1.map (MV.i .i64)),.list (r.2.1.map (MV.i .u8)),.b r.2.2]))) (rfl) λst=> ?_) λw=> ?_))
 ·unfold pA;refine af (aG (n8 (aJ ?_ ?_)))
  ·refine ai (UH st.1) λrA=>cu (Iz (au ?_ ?_))
   ·exact ah
   ·refine aK (eC (([rA.1]:List Int).length) (cG (dj (by simp))))
  ·exact ah
 ·rcases w with p1|p2
  ·refine gD rfl (af (aG (af (aG (aC ah)))))
  ·refine gE rfl (bn rfl (Mc ah))
theorem GA (b:List Int)(most:Int):Sm (λr=> .cM (v10 r)) (qV (.list (b.map (MV.i .u8))) (.i .i64 most)) (jH b most):=by
 unfold qV jH;refine aG (ap (ai (UG b) λrA=>cu (Iz (au ?_ ?_))))
 ·exact ah
 ·refine aJ ?_ ?_
  ·exact ah
  ·refine aK<|aJ ?_ ?_
   ·exact ah
   ·refine aK (cG (adf (M:=aaM (sh 0) (aaN (sh rA.1) rA.2.1)) ((by simp only [wE,aaL,AI,IN,aav,IS,IT,aay])) λbs=> ?_));refine bn (rZ (rfl:_=aaO (MV.i .u8) rA.2.1) λ_=>rfl) (aK (cG (dj (by first|(simp [v10];done)|simp only [v10,AI,IN,aav,IS,IT,aay]))))
theorem WS (a:List Int):Sm (λr=> .cM [.list (r.1.map ab),.list (r.2.1.map (MV.i .u8)),.b r.2.2]) (zM (.list (a.map (MV.i .u8)))) (u9 a):=by
 unfold zM u9;refine aG<|ai (CA a 1) λrA=>cu (Mc ?_);refine ai (f:=λr=>[.b r]) ?_ λw=> ?_
 ·refine au ?_ ?_
  ·exact ah
  ·refine aU (f:=(MV.i .i64)) (rfl) λy=>ap<|aJ ?_ ?_
   ·exact ah
   ·refine aU (f:=(MV.i .i64)) (rfl) λy1=>ap ah
 ·refine af (aE (aC (au ?_ ?_)))
  ·exact ah
  ·refine aU (f:=(MV.i .i64)) (rfl) λy2=>ap<|aJ ?_ ?_
   ·exact ah
   ·refine aU (f:=(MV.i .i64)) (rfl) λy3=>ap<|ai (CA rA.2.1 y3) λaY=>cu (Mc (au ?_ ?_))
    ·exact ah
    ·refine ai (CA aY.2.1 1) λbH=>cu (Mc (au ?_ ?_))
     ·exact ah
     ·refine ai (GA bH.2.1 6000) λcr=>cu (af (dh (n8 (au ?_ ?_))))
      ·exact ah
      ·refine ai (b6 (λr=>[.list (r.1.map ab),.i .i64 r.2]) (λr=>(2,[.list (r.map ab)])) (rfl) λst=> ?_) λw1=> ?_
       ·unfold qA;refine n8 (aK (aJ ?_ ?_))
        ·refine aU (f:=(MV.i .i64)) (rfl) λy4=>ap<|aU (f:=(MV.i .i64)) (rfl) λy5=>ap (aK (eC (([(⟨y4,y5,cr.1⟩:aa)]:List aa).length) (cG (dj (by simp)))))
        ·exact ah
       ·refine bn rfl (af (aG (aC ah)))
theorem aah (t:aL):Sm MV.b (Cs (jC t)) (um t):=by
 unfold Cs um;refine ax (af (aG (aC (ai (b6 (λr=>[.i .i64 r]) (BY (λr=>(2,[])) (λr=>(1,[.b r]))) (rfl) λst=> ?_) λw=> ?_))))
 ·unfold wK;refine af (ap (aC (aK (aJ ?_ ?_))))
  ·refine ai (f:=λr=>[.b r]) ?_ λw1=> ?_
   ·refine aU (f:=ab) (rfl) λy=>ax (cP (ai (Gz y) λrA=>aE (au ?_ ?_)))
    ·exact ah
    ·refine aJ ?_ ?_
     ·refine aU (f:=ab) (rfl) λy1=>ax (cP (aU (f:=ab) (rfl) λy2=>ax (cP ah)))
     ·exact ah
   ·refine af (aE (aC (au ?_ ?_)))
    ·exact ah
    ·exact ah
  ·exact ah
 ·rcases w with p1|p2
  ·refine gD rfl (aC ah)
  ·refine gE rfl (bn rfl (af (aE (aC ah))))
theorem aai (a:aN):Sm MV.b (Ct (dE a)) (uo a):=by
 unfold Ct uo;refine ax (ca (ai (RP a.S a.Me) λrA=>cu (af (ax (ca (af (ap (aC ?_))))))));refine ai (f:=λr=>[.b r]) ?_ λw=> ?_
 ·refine au ?_ ?_
  ·exact ah
  ·refine aJ ?_ ?_
   ·exact ah
   ·refine aJ ?_ ?_
    ·exact ah
    ·refine ai (aah a.bI) λaY=>aE ah
 ·refine af (aE (aC (au ?_ ?_)))
  ·exact ah
  ·refine ai (f:=λr=>[.b r]) ?_ λw1=> ?_
   ·refine au ?_ ?_
    ·refine aJ ?_ ?_
     ·exact ah
     ·refine aJ ?_ ?_
      ·exact ah
      ·refine aJ ?_ ?_
       ·exact ah
       ·refine au ?_ ?_
        ·refine au ?_ ?_
         ·exact ah
         ·exact ah
        ·exact ah
    ·refine au ?_ ?_
     ·refine au ?_ ?_
      ·exact ah
      ·exact ah
     ·exact ah
   ·refine af (aE (aC (au ?_ ?_)))
    ·exact ah
    ·refine ai (f:=λr=>[.b r]) ?_ λw2=> ?_
     ·refine aK<|aJ ?_ ?_
      ·refine ai (HG a.S a.Proof) λbH=>aE<|au ?_ ?_
       ·exact ah
       ·refine aU (f:=ab) (rfl) λy=>ax (cP ah)
      ·exact ah
     ·refine af (aE (aC (au ?_ ?_)))
      ·exact ah
      ·refine ai (b6 (λr=>[.i .i64 r]) (BY (λr=>(2,[])) (λr=>(1,[.b r]))) (rfl) λst=> ?_) λw3=> ?_
       ·unfold pC;refine af (ap (aC (aK (aJ ?_ ?_))))
        ·refine ai (f:=λr=>[.b r]) ?_ λw4=> ?_
         ·refine aU (f:=ab) (rfl) λy1=>ax (cP (ai (Gy a.S) λcr=>ap (aJ ?_ ?_)))
          ·exact ah
          ·refine aU (f:=ab) (rfl) λy2=>ax (cP ah)
         ·refine af (aE (aC (au ?_ ?_)))
          ·exact ah
          ·exact ah
        ·exact ah
       ·rcases w3 with p1|p2
        ·refine gD rfl (aC ah)
        ·refine gE rfl (bn rfl (af (aE (aC ah))))
theorem aeT (a:aV)(a1:Int)(a2:List Int):Sm (λr=> .cM [dE r.1,.i .i64 r.2]) (Gg (cH a) (.i .i64 a1) (.list (a2.map (MV.i .u8)))) (Be a a1 a2):=by
 unfold Gg Be;refine ax (ej (ap (aG (ai (RP a a1) λrA=>cu (af (ax (ca (af (ap (aC (au ?_ ?_)))))))))))
 ·exact ah
 ·refine ai (CA a2 3) λaY=>cu (Mc ?_);refine ai (f:=λr=>[.b r]) ?_ λw=> ?_
  ·refine au ?_ ?_
   ·exact ah
   ·refine aU (f:=(MV.i .i64)) (rfl) λy=>ap<|au ?_ ?_
    ·refine aU (f:=(MV.i .i64)) (rfl) λy1=>ap ah
    ·exact ah
  ·refine af (aE (aC (au ?_ ?_)))
   ·exact ah
   ·refine ai (GA aY.2.1 6000) λbH=>cu (af (dh (n8 (au ?_ ?_))))
    ·exact ah
    ·refine ai (WS bH.2.1) λcr=>cu (Mc ?_);refine ai (f:=λr=>[.b r]) ?_ λw1=> ?_
     ·refine au ?_ ?_
      ·exact ah
      ·refine aK ah
     ·refine af (aE (aC (au ?_ ?_)))
      ·exact ah
      ·refine aU (f:=(MV.i .i64)) (rfl) λy2=>ap<|aU (f:=(MV.i .i64)) (rfl) λy3=>ap<|aU (f:=(MV.i .i64)) (rfl) λy4=>ap<|ai (aai (⟨rA.1.S,rA.1.Me,y2,decide (y3=1),y4,bH.1,cr.1,rA.1.bI⟩:aN)) λeU=> ?_;refine aE<|au ?_ ?_
       ·exact ah
       ·exact ah
theorem aeU (n:Int):Sm (MV.i .i64) (Gh (.i .u64 n)) (Bf n):=by
 unfold Gh Bf;refine ap<|ai (b6 (λr=>[.i .u64 r.1,.i .i64 r.2]) (λr=>(2,[.i .i64 r])) (rfl) λst=> ?_) λw=> ?_
 ·unfold vc;refine ej<|aJ ?_ ?_
  ·refine tQ ah
  ·exact ah
 ·refine bn rfl (af (ap (aC ah)))
theorem RR (b:List Int)(n:Int):Sm (Q3 (MV.i .u8)) (Cu (.list (b.map (MV.i .u8))) (.i .u64 n)) (zt b n):=by
 unfold Cu zt;refine aG (ap (bn (rZ (rfl:_=aaO (MV.i .u8) b) λ_=>rfl) (eC (([]:List Int).length) (aK (cG (ai (aeU n) λrA=>ap (uT (n:=(([]:List Int)++b).length) (by simp only [AT,No,OF,aaH,aaI,aaJ,aaK]) (eC (([fj .u8 (fj .i64 (rA-1))]:List Int).length) (cG ?_)))))))));refine ai (b6 (λr=>[.list (r.1.map (MV.i .u8)),.i .i64 r.2]) (λr=>(2,[.list (r.map (MV.i .u8))])) (by simp) λst=> ?_) λw=> ?_
 ·unfold yq;refine n8<|aJ ?_ ?_
  ·refine ai (b6 (λr=>[.i .u64 r.1,.i .i64 r.2]) (λr=>(4,[.i .u64 r])) (rfl) λdC=> ?_) λw1=> ?_
   ·unfold yp;refine ej<|aJ ?_ ?_
    ·refine tQ ah
    ·exact ah
   ·refine bn rfl (af (ap (aC (tQ (aK (eC (([fj .u8 (Int.tmod w1 256)]:List Int).length) (cG (dj (by simp)))))))))
  ·exact ah
 ·refine bn rfl (af (aG (aC ah)))
theorem CB (b:List Int)(n:Int):Sm (Q3 (MV.i .u8)) (ua (.list (b.map (MV.i .u8))) (.i .i64 n)) (r8 b n):=by
 unfold ua r8;refine aG (ap (aJ ?_ ?_))
 ·refine ai (RR b (fj .u64 ((fj .u64 (2 *(fj .u64 (fj .i64 (0-(fj .i64 (n+1)))))))+1))) λrA=>jA ah
 ·refine ai (RR b (fj .u64 (2 *(fj .u64 n)))) λaY=>jA ah
theorem UI (b:List Int)(sA:List UInt8):Sm (Q3 (MV.i .u8)) (Bz (.list (b.map (MV.i .u8))) (.s sA)) (yr b sA):=by unfold Bz yr;refine aG (dh (ai (RR b (fj .u64 (sA.length:Int))) λrA=>jA (aK (uT (n:=(A5 sA).length) (by simp only [wE,AT,No,OF,aaH,aaI,aaJ,aaK]) (cG ?_)))));exact dj (by simp)
theorem aeV (a:aN):Sm (I3 (MV.i .u8)) (Gi (dE a)) (Bg a):=by
 unfold Gi Bg;refine ax (ca (ai (f:=(λr=>(0,[.i .i64 r]))) ?_ λw=> ?_))
 ·refine au ?_ ?_
  ·exact ah
  ·exact ah
 ·refine bn rfl (af (ap (aC (ai (CB ([]:List Int) a.View) λrA=>jA (ai (CB rA w) λaY=>jA (ai (CB aY a.At) λbH=>jA (ai (UI bH a.Value) λcr=>jA (aK (ai (CB cr (a.Proof.length:Int)) λeU=> ?_)))))))));refine jA<|ai (b6 (λr=>[.list (r.1.map (MV.i .u8)),.i .i64 r.2]) (λr=>(2,[.list (r.map (MV.i .u8))])) (rfl) λst=> ?_) λw1=> ?_
  ·unfold zu;refine n8 (aK (aJ ?_ ?_))
   ·refine aU (f:=ab) (rfl) λy=>ax (cP (ai (CB st.1 y.By) λkP=>jA ah))
   ·exact ah
  ·refine bn rfl (af (aG (aC (aK (ai (f:=(λr=>(0,[.list (r.map (MV.i .u8))]))) ?_ λw2=> ?_)))))
   ·refine aJ ?_ ?_
    ·refine aU (f:=ab) (rfl) λy1=>ax (cP (ai (CB w1 y1.View) λqm=>jA (aU (f:=ab) (rfl) λy2=>ax (cP (ai (UI qm y2.Value) λA8=>jA ah)))))
    ·exact ah
   ·refine bn rfl (af (aG (aC ah)))
theorem UJ (sA:aV)(i:Int)(n:cC):Sm fw (wX (cH sA) (.i .i64 i) (fw n)) (sR sA i n):=by unfold wX sR;refine ax (ej (ap (ax (aA (ai (aeV n.A) λrA=>aG (ai (aeT sA i rA) λaY=>cu (af (ax (ca (af (ap (aC (ai (YM sA) λbH=>cu (af (ax (cb (af (ap (aC ?_)))))))))))))))))));exact ah
theorem ahI (a:bF)(b:bF):Sm MV.b (JI (dY a) (dY b)) (Fl a b):=by
 unfold JI Fl;refine ax (bC (ax (bC ?_)));refine ai (f:=λr=>[.b r]) ?_ λw=> ?_
 ·refine aJ ?_ ?_
  ·refine aJ ?_ ?_
   ·refine aJ ?_ ?_
    ·refine aJ ?_ ?_
     ·exact ah
     ·exact ah
    ·exact ah
   ·exact ah
  ·exact ah
 ·refine af (aE (aC ?_));refine ai (f:=λr=>[.b r]) ?_ λw1=> ?_
  ·refine au ?_ ?_
   ·refine ai (UB a.dX b.dX) λrA=>aE<|au ?_ ?_
    ·refine ai (vB a.Proof b.Proof) λaY=>aE<|au ?_ ?_
     ·refine ai (YN a.R b.R) λbH=>aE ah
     ·exact ah
    ·exact ah
   ·exact ah
  ·refine af (aE (aC ah))
theorem aaj (a:List bF)(b:List bF):Sm MV.b (Cy (.list (a.map dY)) (.list (b.map dY))) (yt a b):=by
 unfold Cy yt;refine aG (aG (aK (aK (au ?_ ?_))))
 ·exact ah
 ·refine ai (b6 (λr=>[.i .i64 r]) (BY (λr=>(2,[])) (λr=>(1,[.b r]))) (rfl) λst=> ?_) λw=> ?_
  ·unfold sS;refine af (ap (aC (aK (aJ ?_ ?_))))
   ·refine aU (f:=dY) (rfl) λy=>ax (bC (aU (f:=dY) (rfl) λy1=>ax (bC (ai (ahI y y1) λrA=>aE (au ?_ ?_)))))
    ·exact ah
    ·exact ah
   ·exact ah
  ·rcases w with p1|p2
   ·refine gD rfl (aC ah)
   ·refine gE rfl (bn rfl (af (aE (aC ah))))
theorem aeW (lA:List aw):Sm (I3 dY) (Gj (.list (lA.map bw))) (Bh lA):=by
 unfold Gj Bh;refine aG<|ai (b6 (λr=>[.list (r.1.map dY),.i .i64 r.2]) (λr=>(2,[.list (r.map dY)])) (rfl) λst=> ?_) λw=> ?_
 ·unfold vd;refine n8 (aK (aJ ?_ ?_))
  ·refine aU (f:=bw) (rfl) λy=>ax (bC (ai (YP y) λrA=>ax (bC (aK (eC (([rA]:List bF).length) (cG (dj (by simp [ay]))))))))
  ·exact ah
 ·refine bn rfl (af (aG (aC ah)))
theorem Mo (c:aQ)(lA:List aw):Sm (λr=> .gm ((λ_=> .cM []) r.1) (eT r.2)) (qW (eT c) (.list (lA.map bw))) (mW c lA):=by
 unfold qW mW;refine aG (bZ (aK (ai (b6 (λr=>(v6 r)) (λr=>(2,(v8 r))) (rfl) λst=> ?_) λw=> ?_)))
 ·unfold kC;refine af (ap (bZ (aJ ?_ ?_)))
  ·refine aU (f:=bw) (rfl) λy=>ax (bC (aK (ai (f:=(λr=>(0,(v8 r)))) ?_ λw1=> ?_)))
   ·refine aJ ?_ ?_
    ·refine rY<|ai (vA st.2.2.2.2.2.2) λrA=> ?_;refine Wq (bn (rZ (rfl:_=aaO bw rA) λ_=>by simp only [MV.w,MV.wl,Nat.reduceAdd]) (aK (eC (([y]:List aw).length) (cG (dj (by simp [eT,ay,bx,v6,v8]))))))
    ·exact ah
   ·refine bn rfl (bZ ah)
  ·exact ah
 ·refine bn rfl (bZ ah)
theorem xE (c:aQ)(i:Int)(n:aD)(said:List aw):Sm (λr=> .gm ((λ_=> .cM []) r.1) (eT r.2)) (lP (eT c) (.i .i64 i) (bL n) (.list (said.map bw))) (jV c i n said):=by unfold lP jV;refine ap (ax (aA (aG (bZ (aU (f:=bL) (rfl) λy=>ax (aA (ai (by simpa [eT,al,bx] using Mo (⟨c.S,c.fW,c.Want,c.N.set (sh i) n,c.cA⟩:aQ) said) λrA=> ?_)))))));refine om (bZ ah)
theorem GB (c:aQ)(i:Int)(m:aw):Sm (λr=> .gm ((λ_=> .cM []) r.1) (eT r.2)) (mu (eT c) (.i .i64 i) (bw m)) (mj c i m):=by unfold mu mj;refine ap (ax (bC (bZ (aU (f:=bL) (rfl) λy=>ax (aA (ai (Mk c.S i y m) λrA=>cu (af (ax (aA (af (aG (aC (ai (xE c i rA.1 rA.2) λaY=> ?_)))))))))))));refine om (bZ ah)
theorem Jq (c:aQ)(i:Int)(view:Int):Sm (λr=> .gm ((λ_=> .cM []) r.1) (eT r.2)) (oX (eT c) (.i .i64 i) (.i .i64 view)) (tg c i view):=by unfold oX tg;refine ap (ap (bZ (aU (f:=bL) (rfl) λy=>ax (aA (ai (IB c.S i y view) λrA=>cu (af (ax (aA (af (aG (aC (ai (xE c i rA.1 rA.2) λaY=> ?_))))))))))));refine om (bZ ah)
theorem Mp (c:aQ)(i:Int):Sm (λr=> .gm ((λ_=> .cM []) r.1) (eT r.2)) (qX (eT c) (.i .i64 i)) (qB c i):=by unfold qX qB;refine ap (bZ (aU (f:=bL) (rfl) λy=>ax (aA (aU (f:=MV.s) (rfl) λy1=>dh (ai (Mm c.S i y y1) λrA=>cu (af (ax (aA (af (aG (aC (ai (xE c i rA.1 rA.2) λaY=> ?_))))))))))));refine om (bZ ah)
theorem Od (c:aQ)(lA:List aw):Sm (λr=> .gm ((λ_=> .cM []) r.1) (eT r.2)) (sn (eT c) (.list (lA.map bw))) (xt c lA):=by
 unfold sn xt;refine aG (bZ (aK (ai (b6 (λr=>(v6 r)) (λr=>(2,(v8 r))) (rfl) λst=> ?_) λw=> ?_)))
 ·unfold Ae;refine af (ap (bZ (aJ ?_ ?_)))
  ·refine aU (f:=bw) (rfl) λy=>ax (bC (aK (ai (f:=(λr=>(0,(v8 r)))) ?_ λw1=> ?_)))
   ·refine aJ ?_ ?_
    ·refine rY<|ai (vA st.2.2.2.2.2.2) λrA=> ?_;refine Wq (bn (rZ (rfl:_=aaO bw rA) λ_=>by simp only [MV.w,MV.wl,Nat.reduceAdd]) (aK (eC (([y]:List aw).length) (cG (dj (by simp [eT,ay,bx,v6,v8]))))))
    ·exact ah
   ·refine bn rfl (bZ ah)
  ·exact ah
 ·refine bn rfl (bZ ah)
theorem HH (a:aQ)(a1:eh):Sm jB (ux (jB a) (mP a1)) (jo a a1):=by
 unfold ux jo;refine ax (bZ (ax (nh (aJ ?_ ?_))))
 ·refine ai (WN a a1.M) λrA=>aE<|ai (f:=(λr=>(0,(v8 r)))) ?_ λw=> ?_
  ·refine au ?_ ?_
   ·refine ai (Od a ([a1.M]:List aw)) λaY=>om (bZ ah)
   ·exact ah
  ·refine bn rfl (bZ ah)
 ·refine ai (jN a a1.I false) λbH=>aE<|au ?_ ?_
  ·exact ah
  ·refine ai (B8 (size:=18) (f:=bL) (λ_=>by simp only [MV.w,MV.wl,Nat.reduceAdd]) a.N) λcr=>jA<|ai (f:=(λr=>(0,(v8 r)))) ?_ λw1=> ?_
   ·refine aJ ?_ ?_
    ·refine ai (f:=λr=>[.b r]) ?_ λw2=> ?_
     ·refine aJ ?_ ?_
      ·refine aK ah
      ·exact ah
     ·refine af (aE (aC (ai (f:=(λr=>(0,(v8 r)))) ?_ λw3=> ?_)))
      ·refine au ?_ ?_
       ·refine aU (f:=bw) (rfl) λy=>ax (bC (ai (GB (⟨a.S,a.fW,a.Want,cr,a.cA⟩:aQ) a1.I y) λeU=>om (bZ ah)))
       ·exact ah
      ·refine bn rfl (bZ ah)
    ·refine ai (f:=(λr=>(0,(v8 r)))) ?_ λw4=> ?_
     ·refine aJ ?_ ?_
      ·refine aU (f:=bL) (rfl) λy1=>ax (aA (ai (Jq (⟨a.S,a.fW,a.Want,cr,a.cA⟩:aQ) a1.I (fj .i64 (y1.A.View+1))) λkP=>om (bZ ah)))
      ·refine ai (f:=(λr=>(0,(v8 r)))) ?_ λw5=> ?_
       ·refine aJ ?_ ?_
        ·refine ai (Mp (⟨a.S,a.fW,a.Want,cr,a.cA⟩:aQ) a1.I) λqm=>om (bZ ah)
        ·refine ai (f:=(λr=>(0,(v8 r)))) ?_ λw6=> ?_
         ·refine aJ ?_ ?_
          ·refine aU (f:=bL) (rfl) λy2=>ax (aA (ai (Gr a.S a1.I y2) λA8=>ax (aA (aU (f:=bL) (rfl) λy3=>ax (aA (dj (by simp [al,ay,bx,v8])))))))
          ·exact ah
         ·refine bn rfl (bZ ah)
       ·refine bn rfl (bZ ah)
     ·refine bn rfl (bZ ah)
   ·refine bn rfl (bZ ah)
theorem HI:Sm MV.b (uy) (rG):=by
 unfold uy rG;refine cG<|ai (by simpa [bx,v5,v8] using aeJ (⟨1,0⟩:ak) (aaQ (sh 4) false) ([([97]:List UInt8),([98]:List UInt8),([99]:List UInt8),([100]:List UInt8)]:List (List UInt8))) λrA=>cu (af (ax (bZ (af (ap (aC ?_))))));refine ai (HH rA.1 (⟨2,0,0,(⟨0,0,0,([]:List UInt8),([]:List ae),(⟨0,0,([]:List UInt8)⟩:aa),([]:List aa),(⟨0,0,false,0,([]:List UInt8),([]:List aa)⟩:ae)⟩:aw)⟩:eh)) λaY=> ?_;refine ax (bZ (ai (b6 (λr=>(v5 r)) (λr=>(2,(v8 r))) (rfl) λst=> ?_) λw=> ?_))
 ·unfold wL;refine af (ap (af (ap (af (aG (af (aG (af (aG (n8 (aJ ?_ ?_)))))))))))
  ·refine ai (HH (⟨(⟨st.1,st.2.1⟩:ak),st.2.2.1,st.2.2.2.1,st.2.2.2.2.1,st.2.2.2.2.2.1⟩:aQ) (⟨0,st.2.2.2.2.2.2,0,(⟨0,0,0,([]:List UInt8),([]:List ae),(⟨0,0,([]:List UInt8)⟩:aa),([]:List aa),(⟨0,0,false,0,([]:List UInt8),([]:List aa)⟩:ae)⟩:aw)⟩:eh)) λbH=> ?_;refine ax (bZ ah)
  ·exact ah
 ·refine bn rfl (bZ (ai (b6 (λr=>(v5 r)) (λr=>(4,(v8 r))) (rfl) λdC=> ?_) λw1=> ?_))
  ·unfold wM;refine af (ap (af (ap (af (aG (af (aG (af (aG (n8 (aJ ?_ ?_)))))))))))
   ·refine ai (HH (⟨(⟨dC.1,dC.2.1⟩:ak),dC.2.2.1,dC.2.2.2.1,dC.2.2.2.2.1,dC.2.2.2.2.2.1⟩:aQ) (⟨0,2,dC.2.2.2.2.2.2,(⟨0,0,0,([]:List UInt8),([]:List ae),(⟨0,0,([]:List UInt8)⟩:aa),([]:List aa),(⟨0,0,false,0,([]:List UInt8),([]:List aa)⟩:ae)⟩:aw)⟩:eh)) λcr=> ?_;refine ax (bZ ah)
   ·exact ah
  ·refine bn rfl (bZ (ai (Gx (⟨(⟨w1.1,w1.2.1⟩:ak),w1.2.2.1,w1.2.2.2.1,w1.2.2.2.2.1,w1.2.2.2.2.2⟩:aQ) 2) λeU=>cu (Uv (ai (Gx (⟨(⟨w1.1,w1.2.1⟩:ak),w1.2.2.1,w1.2.2.2.1,w1.2.2.2.2.1,w1.2.2.2.2.2⟩:aQ) 1) λkP=> ?_))));refine cu (Uv ?_);refine ai (f:=λr=>[.b r]) ?_ λw2=> ?_
   ·refine aJ ?_ ?_
    ·refine au ?_ ?_
     ·refine aJ ?_ ?_
      ·exact ah
      ·exact ah
     ·exact ah
    ·exact ah
   ·refine af (aE (aC ah))
theorem Oe (a:lh)(a1:Int)(a2:List eh):Sm MV.b (xD (DZ a) (.i .i64 a1) (.list (a2.map mP))) (r9 a a1 a2):=by
 unfold xD r9;refine ax (af (ap (af (ap (af (aG (af (aG (aC (ap (aG (ai (Z7 a a2) λrA=>aE (au ?_ ?_)))))))))))))
 ·refine ai (HI) λaY=>aE ah
 ·refine ai (Md a.S a1) λbH=>cu (af (ax (aA (af (ap (aC (ai (rR a.S) λcr=>ax (ej (ai (aaa cr a1) λeU=>cu (af (ax (aA (af (ap (aC ?_)))))))))))))));refine ai (f:=λr=>[.b r]) ?_ λw=> ?_
  ·refine au ?_ ?_
   ·exact ah
   ·refine ai (UC bH.1) λkP=>ax (aA (ai (PR kP eU.1) λqm=>aE ah))
  ·refine af (aE (aC (au ?_ ?_)))
   ·exact ah
   ·refine au ?_ ?_
    ·refine ai (HI) λA8=>aE ah
    ·refine ai (b6 (λr=>[.i .i64 r.1,.i .i64 r.2.1,.i .i64 r.2.2.1,.i .i64 r.2.2.2.1,.b r.2.2.2.2.1,.i .i64 r.2.2.2.2.2.1,.s r.2.2.2.2.2.2.1,.list (r.2.2.2.2.2.2.2.1.map ab),.list (r.2.2.2.2.2.2.2.2.1.map ab),.i .i64 r.2.2.2.2.2.2.2.2.2.1,.i .i64 r.2.2.2.2.2.2.2.2.2.2.1,.list (r.2.2.2.2.2.2.2.2.2.2.2.1.map ab),.list (r.2.2.2.2.2.2.2.2.2.2.2.2.1.map ab),.list (r.2.2.2.2.2.2.2.2.2.2.2.2.2.1.map ab),.b r.2.2.2.2.2.2.2.2.2.2.2.2.2.2.1,.s r.2.2.2.2.2.2.2.2.2.2.2.2.2.2.2.1,.list (r.2.2.2.2.2.2.2.2.2.2.2.2.2.2.2.2.1.map av),.i .i64 r.2.2.2.2.2.2.2.2.2.2.2.2.2.2.2.2.2.1,.i .i64 r.2.2.2.2.2.2.2.2.2.2.2.2.2.2.2.2.2.2.1,.i .i64 r.2.2.2.2.2.2.2.2.2.2.2.2.2.2.2.2.2.2.2.1,.i .i64 r.2.2.2.2.2.2.2.2.2.2.2.2.2.2.2.2.2.2.2.2.1,.i .i64 r.2.2.2.2.2.2.2.2.2.2.2.2.2.2.2.2.2.2.2.2.2.1,.b r.2.2.2.2.2.2.2.2.2.2.2.2.2.2.2.2.2.2.2.2.2.2.1,.i .i64 r.2.2.2.2.2.2.2.2.2.2.2.2.2.2.2.2.2.2.2.2.2.2.2.1,.s r.2.2.2.2.2.2.2.2.2.2.2.2.2.2.2.2.2.2.2.2.2.2.2.2.1,.list (r.2.2.2.2.2.2.2.2.2.2.2.2.2.2.2.2.2.2.2.2.2.2.2.2.2.1.map ab),.list (r.2.2.2.2.2.2.2.2.2.2.2.2.2.2.2.2.2.2.2.2.2.2.2.2.2.2.1.map ab),.i .i64 r.2.2.2.2.2.2.2.2.2.2.2.2.2.2.2.2.2.2.2.2.2.2.2.2.2.2.2.1,.i .i64 r.2.2.2.2.2.2.2.2.2.2.2.2.2.2.2.2.2.2.2.2.2.2.2.2.2.2.2.2.1,.list (r.2.2.2.2.2.2.2.2.2.2.2.2.2.2.2.2.2.2.2.2.2.2.2.2.2.2.2.2.2.1.map ab),.list (r.2.2.2.2.2.2.2.2.2.2.2.2.2.2.2.2.2.2.2.2.2.2.2.2.2.2.2.2.2.2.1.map ab),.list (r.2.2.2.2.2.2.2.2.2.2.2.2.2.2.2.2.2.2.2.2.2.2.2.2.2.2.2.2.2.2.2.1.map ab),.b r.2.2.2.2.2.2.2.2.2.2.2.2.2.2.2.2.2.2.2.2.2.2.2.2.2.2.2.2.2.2.2.2.1,.s r.2.2.2.2.2.2.2.2.2.2.2.2.2.2.2.2.2.2.2.2.2.2.2.2.2.2.2.2.2.2.2.2.2.1,.list (r.2.2.2.2.2.2.2.2.2.2.2.2.2.2.2.2.2.2.2.2.2.2.2.2.2.2.2.2.2.2.2.2.2.2.1.map av),.i .i64 r.2.2.2.2.2.2.2.2.2.2.2.2.2.2.2.2.2.2.2.2.2.2.2.2.2.2.2.2.2.2.2.2.2.2.2.1,.i .i64 r.2.2.2.2.2.2.2.2.2.2.2.2.2.2.2.2.2.2.2.2.2.2.2.2.2.2.2.2.2.2.2.2.2.2.2.2]) (BY (λr=>(2,[])) (λr=>(1,[.b r]))) (rfl) λst=> ?_) λw1=> ?_
     ·unfold lC;refine af (ap (af (ap (af (ap (af (ap (af (aE (af (ap (af (dh (af (aG (af (aG (af (ap (af (ap (af (aG (af (aG (af (aG (af (aE (af (dh (af (aG (af (ap ?_)))))))))))))))))))))))))))))))))));refine af (ap (af (ap (af (ap (af (ap (af (aE (af (ap (af (dh (af (aG (af (aG (af (ap (af (ap (af (aG (af (aG (af (aG (af (aE (af (dh (af (aG (ej (aK ?_)))))))))))))))))))))))))))))))))));refine aJ ?_ ?_
      ·refine aU (f:=mP) (rfl) λy=>ax (nh (ai (f:=(λr=>(0,[.b r]))) ?_ λw2=> ?_))
       ·refine aJ ?_ ?_
        ·exact ah
        ·exact ah
       ·refine bn rfl (af (aE (aC (ai (f:=(λr=>(0,(v0 r)))) ?_ λw3=> ?_))))
        ·refine au ?_ ?_
         ·refine ai (Mk a.S a1 (⟨(⟨(⟨st.1,st.2.1⟩:ak),st.2.2.1,st.2.2.2.1,st.2.2.2.2.1,st.2.2.2.2.2.1,st.2.2.2.2.2.2.1,st.2.2.2.2.2.2.2.1,(⟨st.2.2.2.2.2.2.2.2.1⟩:az)⟩:aj),(⟨(⟨st.2.2.2.2.2.2.2.2.2.1,st.2.2.2.2.2.2.2.2.2.2.1⟩:ak),(⟨st.2.2.2.2.2.2.2.2.2.2.2.1⟩:az),(⟨st.2.2.2.2.2.2.2.2.2.2.2.2.1⟩:az),(⟨st.2.2.2.2.2.2.2.2.2.2.2.2.2.1⟩:az),st.2.2.2.2.2.2.2.2.2.2.2.2.2.2.1,st.2.2.2.2.2.2.2.2.2.2.2.2.2.2.2.1⟩:aq),st.2.2.2.2.2.2.2.2.2.2.2.2.2.2.2.2.1,st.2.2.2.2.2.2.2.2.2.2.2.2.2.2.2.2.2.1⟩:aD) y.M) λGR=> ?_;refine cu (af (ax (aA (af (aG (aC (ai (rR a.S) λrA9=>ax (ej (ai (YP y.M) λadj=>ax (bC (ai (aae rA9 a1 (⟨(⟨(⟨st.2.2.2.2.2.2.2.2.2.2.2.2.2.2.2.2.2.2.1,st.2.2.2.2.2.2.2.2.2.2.2.2.2.2.2.2.2.2.2.1⟩:aV),st.2.2.2.2.2.2.2.2.2.2.2.2.2.2.2.2.2.2.2.2.1,st.2.2.2.2.2.2.2.2.2.2.2.2.2.2.2.2.2.2.2.2.2.1,st.2.2.2.2.2.2.2.2.2.2.2.2.2.2.2.2.2.2.2.2.2.2.1,st.2.2.2.2.2.2.2.2.2.2.2.2.2.2.2.2.2.2.2.2.2.2.2.1,st.2.2.2.2.2.2.2.2.2.2.2.2.2.2.2.2.2.2.2.2.2.2.2.2.1,st.2.2.2.2.2.2.2.2.2.2.2.2.2.2.2.2.2.2.2.2.2.2.2.2.2.1,(⟨st.2.2.2.2.2.2.2.2.2.2.2.2.2.2.2.2.2.2.2.2.2.2.2.2.2.2.1⟩:aL)⟩:aN),(⟨(⟨st.2.2.2.2.2.2.2.2.2.2.2.2.2.2.2.2.2.2.2.2.2.2.2.2.2.2.2.1,st.2.2.2.2.2.2.2.2.2.2.2.2.2.2.2.2.2.2.2.2.2.2.2.2.2.2.2.2.1⟩:aV),(⟨st.2.2.2.2.2.2.2.2.2.2.2.2.2.2.2.2.2.2.2.2.2.2.2.2.2.2.2.2.2.1⟩:aL),(⟨st.2.2.2.2.2.2.2.2.2.2.2.2.2.2.2.2.2.2.2.2.2.2.2.2.2.2.2.2.2.2.1⟩:aL),(⟨st.2.2.2.2.2.2.2.2.2.2.2.2.2.2.2.2.2.2.2.2.2.2.2.2.2.2.2.2.2.2.2.1⟩:aL),st.2.2.2.2.2.2.2.2.2.2.2.2.2.2.2.2.2.2.2.2.2.2.2.2.2.2.2.2.2.2.2.2.1,st.2.2.2.2.2.2.2.2.2.2.2.2.2.2.2.2.2.2.2.2.2.2.2.2.2.2.2.2.2.2.2.2.2.1⟩:bq),st.2.2.2.2.2.2.2.2.2.2.2.2.2.2.2.2.2.2.2.2.2.2.2.2.2.2.2.2.2.2.2.2.2.2.1,st.2.2.2.2.2.2.2.2.2.2.2.2.2.2.2.2.2.2.2.2.2.2.2.2.2.2.2.2.2.2.2.2.2.2.2.1⟩:cC) adj) λvQ=> ?_)))))))))));refine cu (af (ax (aA (af (aG (aC (rY ah)))))))
         ·refine ai (f:=(λr=>(0,(v0 r)))) ?_ λw4=> ?_
          ·refine aJ ?_ ?_
           ·refine ai (IB a.S a1 (⟨(⟨(⟨st.1,st.2.1⟩:ak),st.2.2.1,st.2.2.2.1,st.2.2.2.2.1,st.2.2.2.2.2.1,st.2.2.2.2.2.2.1,st.2.2.2.2.2.2.2.1,(⟨st.2.2.2.2.2.2.2.2.1⟩:az)⟩:aj),(⟨(⟨st.2.2.2.2.2.2.2.2.2.1,st.2.2.2.2.2.2.2.2.2.2.1⟩:ak),(⟨st.2.2.2.2.2.2.2.2.2.2.2.1⟩:az),(⟨st.2.2.2.2.2.2.2.2.2.2.2.2.1⟩:az),(⟨st.2.2.2.2.2.2.2.2.2.2.2.2.2.1⟩:az),st.2.2.2.2.2.2.2.2.2.2.2.2.2.2.1,st.2.2.2.2.2.2.2.2.2.2.2.2.2.2.2.1⟩:aq),st.2.2.2.2.2.2.2.2.2.2.2.2.2.2.2.2.1,st.2.2.2.2.2.2.2.2.2.2.2.2.2.2.2.2.2.1⟩:aD) y.I) λvR=> ?_;refine cu (af (ax (aA (af (aG (aC (ai (rR a.S) λadk=>ax (ej (ai (WR adk a1 (⟨(⟨(⟨st.2.2.2.2.2.2.2.2.2.2.2.2.2.2.2.2.2.2.1,st.2.2.2.2.2.2.2.2.2.2.2.2.2.2.2.2.2.2.2.1⟩:aV),st.2.2.2.2.2.2.2.2.2.2.2.2.2.2.2.2.2.2.2.2.1,st.2.2.2.2.2.2.2.2.2.2.2.2.2.2.2.2.2.2.2.2.2.1,st.2.2.2.2.2.2.2.2.2.2.2.2.2.2.2.2.2.2.2.2.2.2.1,st.2.2.2.2.2.2.2.2.2.2.2.2.2.2.2.2.2.2.2.2.2.2.2.1,st.2.2.2.2.2.2.2.2.2.2.2.2.2.2.2.2.2.2.2.2.2.2.2.2.1,st.2.2.2.2.2.2.2.2.2.2.2.2.2.2.2.2.2.2.2.2.2.2.2.2.2.1,(⟨st.2.2.2.2.2.2.2.2.2.2.2.2.2.2.2.2.2.2.2.2.2.2.2.2.2.2.1⟩:aL)⟩:aN),(⟨(⟨st.2.2.2.2.2.2.2.2.2.2.2.2.2.2.2.2.2.2.2.2.2.2.2.2.2.2.2.1,st.2.2.2.2.2.2.2.2.2.2.2.2.2.2.2.2.2.2.2.2.2.2.2.2.2.2.2.2.1⟩:aV),(⟨st.2.2.2.2.2.2.2.2.2.2.2.2.2.2.2.2.2.2.2.2.2.2.2.2.2.2.2.2.2.1⟩:aL),(⟨st.2.2.2.2.2.2.2.2.2.2.2.2.2.2.2.2.2.2.2.2.2.2.2.2.2.2.2.2.2.2.1⟩:aL),(⟨st.2.2.2.2.2.2.2.2.2.2.2.2.2.2.2.2.2.2.2.2.2.2.2.2.2.2.2.2.2.2.2.1⟩:aL),st.2.2.2.2.2.2.2.2.2.2.2.2.2.2.2.2.2.2.2.2.2.2.2.2.2.2.2.2.2.2.2.2.1,st.2.2.2.2.2.2.2.2.2.2.2.2.2.2.2.2.2.2.2.2.2.2.2.2.2.2.2.2.2.2.2.2.2.1⟩:bq),st.2.2.2.2.2.2.2.2.2.2.2.2.2.2.2.2.2.2.2.2.2.2.2.2.2.2.2.2.2.2.2.2.2.2.1,st.2.2.2.2.2.2.2.2.2.2.2.2.2.2.2.2.2.2.2.2.2.2.2.2.2.2.2.2.2.2.2.2.2.2.2.1⟩:cC) y.I) λvT=> ?_)))))))));refine cu (af (ax (aA (af (aG (aC (rY ah)))))))
           ·refine ai (f:=(λr=>(0,(v0 r)))) ?_ λw5=> ?_
            ·refine aJ ?_ ?_
             ·refine ai (Mm a.S a1 (⟨(⟨(⟨st.1,st.2.1⟩:ak),st.2.2.1,st.2.2.2.1,st.2.2.2.2.1,st.2.2.2.2.2.1,st.2.2.2.2.2.2.1,st.2.2.2.2.2.2.2.1,(⟨st.2.2.2.2.2.2.2.2.1⟩:az)⟩:aj),(⟨(⟨st.2.2.2.2.2.2.2.2.2.1,st.2.2.2.2.2.2.2.2.2.2.1⟩:ak),(⟨st.2.2.2.2.2.2.2.2.2.2.2.1⟩:az),(⟨st.2.2.2.2.2.2.2.2.2.2.2.2.1⟩:az),(⟨st.2.2.2.2.2.2.2.2.2.2.2.2.2.1⟩:az),st.2.2.2.2.2.2.2.2.2.2.2.2.2.2.1,st.2.2.2.2.2.2.2.2.2.2.2.2.2.2.2.1⟩:aq),st.2.2.2.2.2.2.2.2.2.2.2.2.2.2.2.2.1,st.2.2.2.2.2.2.2.2.2.2.2.2.2.2.2.2.2.1⟩:aD) y.M.Value) λvU=> ?_;refine cu (af (ax (aA (af (aG (aC (ai (rR a.S) λadl=>ax (ej (ai (aag adl a1 (⟨(⟨(⟨st.2.2.2.2.2.2.2.2.2.2.2.2.2.2.2.2.2.2.1,st.2.2.2.2.2.2.2.2.2.2.2.2.2.2.2.2.2.2.2.1⟩:aV),st.2.2.2.2.2.2.2.2.2.2.2.2.2.2.2.2.2.2.2.2.1,st.2.2.2.2.2.2.2.2.2.2.2.2.2.2.2.2.2.2.2.2.2.1,st.2.2.2.2.2.2.2.2.2.2.2.2.2.2.2.2.2.2.2.2.2.2.1,st.2.2.2.2.2.2.2.2.2.2.2.2.2.2.2.2.2.2.2.2.2.2.2.1,st.2.2.2.2.2.2.2.2.2.2.2.2.2.2.2.2.2.2.2.2.2.2.2.2.1,st.2.2.2.2.2.2.2.2.2.2.2.2.2.2.2.2.2.2.2.2.2.2.2.2.2.1,(⟨st.2.2.2.2.2.2.2.2.2.2.2.2.2.2.2.2.2.2.2.2.2.2.2.2.2.2.1⟩:aL)⟩:aN),(⟨(⟨st.2.2.2.2.2.2.2.2.2.2.2.2.2.2.2.2.2.2.2.2.2.2.2.2.2.2.2.1,st.2.2.2.2.2.2.2.2.2.2.2.2.2.2.2.2.2.2.2.2.2.2.2.2.2.2.2.2.1⟩:aV),(⟨st.2.2.2.2.2.2.2.2.2.2.2.2.2.2.2.2.2.2.2.2.2.2.2.2.2.2.2.2.2.1⟩:aL),(⟨st.2.2.2.2.2.2.2.2.2.2.2.2.2.2.2.2.2.2.2.2.2.2.2.2.2.2.2.2.2.2.1⟩:aL),(⟨st.2.2.2.2.2.2.2.2.2.2.2.2.2.2.2.2.2.2.2.2.2.2.2.2.2.2.2.2.2.2.2.1⟩:aL),st.2.2.2.2.2.2.2.2.2.2.2.2.2.2.2.2.2.2.2.2.2.2.2.2.2.2.2.2.2.2.2.2.1,st.2.2.2.2.2.2.2.2.2.2.2.2.2.2.2.2.2.2.2.2.2.2.2.2.2.2.2.2.2.2.2.2.2.1⟩:bq),st.2.2.2.2.2.2.2.2.2.2.2.2.2.2.2.2.2.2.2.2.2.2.2.2.2.2.2.2.2.2.2.2.2.2.1,st.2.2.2.2.2.2.2.2.2.2.2.2.2.2.2.2.2.2.2.2.2.2.2.2.2.2.2.2.2.2.2.2.2.2.2.1⟩:cC) y.M.Value) λvV=> ?_)))))))));refine cu (af (ax (aA (af (aG (aC (rY ah)))))))
             ·refine ai (f:=(λr=>(0,[.i .i64 r.1,.i .i64 r.2.1,.i .i64 r.2.2.1,.i .i64 r.2.2.2.1,.b r.2.2.2.2.1,.i .i64 r.2.2.2.2.2.1,.s r.2.2.2.2.2.2.1,.list (r.2.2.2.2.2.2.2.1.map ab),.list (r.2.2.2.2.2.2.2.2.1.map ab),.i .i64 r.2.2.2.2.2.2.2.2.2.1,.i .i64 r.2.2.2.2.2.2.2.2.2.2.1,.list (r.2.2.2.2.2.2.2.2.2.2.2.1.map ab),.list (r.2.2.2.2.2.2.2.2.2.2.2.2.1.map ab),.list (r.2.2.2.2.2.2.2.2.2.2.2.2.2.1.map ab),.b r.2.2.2.2.2.2.2.2.2.2.2.2.2.2.1,.s r.2.2.2.2.2.2.2.2.2.2.2.2.2.2.2.1,.list (r.2.2.2.2.2.2.2.2.2.2.2.2.2.2.2.2.1.map av),.i .i64 r.2.2.2.2.2.2.2.2.2.2.2.2.2.2.2.2.2.1,.i .i64 r.2.2.2.2.2.2.2.2.2.2.2.2.2.2.2.2.2.2.1,.i .i64 r.2.2.2.2.2.2.2.2.2.2.2.2.2.2.2.2.2.2.2.1,.i .i64 r.2.2.2.2.2.2.2.2.2.2.2.2.2.2.2.2.2.2.2.2.1,.i .i64 r.2.2.2.2.2.2.2.2.2.2.2.2.2.2.2.2.2.2.2.2.2.1,.b r.2.2.2.2.2.2.2.2.2.2.2.2.2.2.2.2.2.2.2.2.2.2.1,.i .i64 r.2.2.2.2.2.2.2.2.2.2.2.2.2.2.2.2.2.2.2.2.2.2.2.1,.s r.2.2.2.2.2.2.2.2.2.2.2.2.2.2.2.2.2.2.2.2.2.2.2.2.1,.list (r.2.2.2.2.2.2.2.2.2.2.2.2.2.2.2.2.2.2.2.2.2.2.2.2.2.1.map ab),.list (r.2.2.2.2.2.2.2.2.2.2.2.2.2.2.2.2.2.2.2.2.2.2.2.2.2.2.1.map ab),.i .i64 r.2.2.2.2.2.2.2.2.2.2.2.2.2.2.2.2.2.2.2.2.2.2.2.2.2.2.2.1,.i .i64 r.2.2.2.2.2.2.2.2.2.2.2.2.2.2.2.2.2.2.2.2.2.2.2.2.2.2.2.2.1,.list (r.2.2.2.2.2.2.2.2.2.2.2.2.2.2.2.2.2.2.2.2.2.2.2.2.2.2.2.2.2.1.map ab),.list (r.2.2.2.2.2.2.2.2.2.2.2.2.2.2.2.2.2.2.2.2.2.2.2.2.2.2.2.2.2.2.1.map ab),.list (r.2.2.2.2.2.2.2.2.2.2.2.2.2.2.2.2.2.2.2.2.2.2.2.2.2.2.2.2.2.2.2.1.map ab),.b r.2.2.2.2.2.2.2.2.2.2.2.2.2.2.2.2.2.2.2.2.2.2.2.2.2.2.2.2.2.2.2.2.1,.s r.2.2.2.2.2.2.2.2.2.2.2.2.2.2.2.2.2.2.2.2.2.2.2.2.2.2.2.2.2.2.2.2.2.1,.list (r.2.2.2.2.2.2.2.2.2.2.2.2.2.2.2.2.2.2.2.2.2.2.2.2.2.2.2.2.2.2.2.2.2.2.1.map av),.i .i64 r.2.2.2.2.2.2.2.2.2.2.2.2.2.2.2.2.2.2.2.2.2.2.2.2.2.2.2.2.2.2.2.2.2.2.2]))) ?_ λw6=> ?_
              ·refine aJ ?_ ?_
               ·refine ai (Gr a.S a1 (⟨(⟨(⟨st.1,st.2.1⟩:ak),st.2.2.1,st.2.2.2.1,st.2.2.2.2.1,st.2.2.2.2.2.1,st.2.2.2.2.2.2.1,st.2.2.2.2.2.2.2.1,(⟨st.2.2.2.2.2.2.2.2.1⟩:az)⟩:aj),(⟨(⟨st.2.2.2.2.2.2.2.2.2.1,st.2.2.2.2.2.2.2.2.2.2.1⟩:ak),(⟨st.2.2.2.2.2.2.2.2.2.2.2.1⟩:az),(⟨st.2.2.2.2.2.2.2.2.2.2.2.2.1⟩:az),(⟨st.2.2.2.2.2.2.2.2.2.2.2.2.2.1⟩:az),st.2.2.2.2.2.2.2.2.2.2.2.2.2.2.1,st.2.2.2.2.2.2.2.2.2.2.2.2.2.2.2.1⟩:aq),st.2.2.2.2.2.2.2.2.2.2.2.2.2.2.2.2.1,st.2.2.2.2.2.2.2.2.2.2.2.2.2.2.2.2.2.1⟩:aD)) λxu=> ?_;refine ax (aA (ai (rR a.S) λadm=>ax (ej (ai (UJ adm a1 (⟨(⟨(⟨st.2.2.2.2.2.2.2.2.2.2.2.2.2.2.2.2.2.2.1,st.2.2.2.2.2.2.2.2.2.2.2.2.2.2.2.2.2.2.2.1⟩:aV),st.2.2.2.2.2.2.2.2.2.2.2.2.2.2.2.2.2.2.2.2.1,st.2.2.2.2.2.2.2.2.2.2.2.2.2.2.2.2.2.2.2.2.2.1,st.2.2.2.2.2.2.2.2.2.2.2.2.2.2.2.2.2.2.2.2.2.2.1,st.2.2.2.2.2.2.2.2.2.2.2.2.2.2.2.2.2.2.2.2.2.2.2.1,st.2.2.2.2.2.2.2.2.2.2.2.2.2.2.2.2.2.2.2.2.2.2.2.2.1,st.2.2.2.2.2.2.2.2.2.2.2.2.2.2.2.2.2.2.2.2.2.2.2.2.2.1,(⟨st.2.2.2.2.2.2.2.2.2.2.2.2.2.2.2.2.2.2.2.2.2.2.2.2.2.2.1⟩:aL)⟩:aN),(⟨(⟨st.2.2.2.2.2.2.2.2.2.2.2.2.2.2.2.2.2.2.2.2.2.2.2.2.2.2.2.1,st.2.2.2.2.2.2.2.2.2.2.2.2.2.2.2.2.2.2.2.2.2.2.2.2.2.2.2.2.1⟩:aV),(⟨st.2.2.2.2.2.2.2.2.2.2.2.2.2.2.2.2.2.2.2.2.2.2.2.2.2.2.2.2.2.1⟩:aL),(⟨st.2.2.2.2.2.2.2.2.2.2.2.2.2.2.2.2.2.2.2.2.2.2.2.2.2.2.2.2.2.2.1⟩:aL),(⟨st.2.2.2.2.2.2.2.2.2.2.2.2.2.2.2.2.2.2.2.2.2.2.2.2.2.2.2.2.2.2.2.1⟩:aL),st.2.2.2.2.2.2.2.2.2.2.2.2.2.2.2.2.2.2.2.2.2.2.2.2.2.2.2.2.2.2.2.2.1,st.2.2.2.2.2.2.2.2.2.2.2.2.2.2.2.2.2.2.2.2.2.2.2.2.2.2.2.2.2.2.2.2.2.1⟩:bq),st.2.2.2.2.2.2.2.2.2.2.2.2.2.2.2.2.2.2.2.2.2.2.2.2.2.2.2.2.2.2.2.2.2.2.1,st.2.2.2.2.2.2.2.2.2.2.2.2.2.2.2.2.2.2.2.2.2.2.2.2.2.2.2.2.2.2.2.2.2.2.2.1⟩:cC)) λxv=> ?_))));refine ax (aA ah)
               ·exact ah
              ·refine bn rfl (af (ap (af (ap (af (ap (af (ap (af (aE (af (ap (af (dh (af (aG (af (aG (af (ap (af (ap (af (aG (af (aG (af (aG (af (aE (af (dh (af (aG (af ?_)))))))))))))))))))))))))))))))))));refine ap (aA ah)
            ·refine bn rfl (ef ah)
          ·refine bn rfl (ef ah)
        ·refine bn rfl (ef ?_);refine ai (f:=λr=>[.b r]) ?_ λw7=> ?_
         ·refine ai (UC (⟨(⟨(⟨w3.1,w3.2.1⟩:ak),w3.2.2.1,w3.2.2.2.1,w3.2.2.2.2.1,w3.2.2.2.2.2.1,w3.2.2.2.2.2.2.1,w3.2.2.2.2.2.2.2.1,(⟨w3.2.2.2.2.2.2.2.2.1⟩:az)⟩:aj),(⟨(⟨w3.2.2.2.2.2.2.2.2.2.1,w3.2.2.2.2.2.2.2.2.2.2.1⟩:ak),(⟨w3.2.2.2.2.2.2.2.2.2.2.2.1⟩:az),(⟨w3.2.2.2.2.2.2.2.2.2.2.2.2.1⟩:az),(⟨w3.2.2.2.2.2.2.2.2.2.2.2.2.2.1⟩:az),w3.2.2.2.2.2.2.2.2.2.2.2.2.2.2.1,w3.2.2.2.2.2.2.2.2.2.2.2.2.2.2.2.1⟩:aq),w3.2.2.2.2.2.2.2.2.2.2.2.2.2.2.2.2.1,w3.2.2.2.2.2.2.2.2.2.2.2.2.2.2.2.2.2.1⟩:aD)) λadn=> ?_;refine ax (aA (ai (PR adn (⟨(⟨(⟨w3.2.2.2.2.2.2.2.2.2.2.2.2.2.2.2.2.2.2.1,w3.2.2.2.2.2.2.2.2.2.2.2.2.2.2.2.2.2.2.2.1⟩:aV),w3.2.2.2.2.2.2.2.2.2.2.2.2.2.2.2.2.2.2.2.2.1,w3.2.2.2.2.2.2.2.2.2.2.2.2.2.2.2.2.2.2.2.2.2.1,w3.2.2.2.2.2.2.2.2.2.2.2.2.2.2.2.2.2.2.2.2.2.2.1,w3.2.2.2.2.2.2.2.2.2.2.2.2.2.2.2.2.2.2.2.2.2.2.2.1,w3.2.2.2.2.2.2.2.2.2.2.2.2.2.2.2.2.2.2.2.2.2.2.2.2.1,w3.2.2.2.2.2.2.2.2.2.2.2.2.2.2.2.2.2.2.2.2.2.2.2.2.2.1,(⟨w3.2.2.2.2.2.2.2.2.2.2.2.2.2.2.2.2.2.2.2.2.2.2.2.2.2.2.1⟩:aL)⟩:aN),(⟨(⟨w3.2.2.2.2.2.2.2.2.2.2.2.2.2.2.2.2.2.2.2.2.2.2.2.2.2.2.2.1,w3.2.2.2.2.2.2.2.2.2.2.2.2.2.2.2.2.2.2.2.2.2.2.2.2.2.2.2.2.1⟩:aV),(⟨w3.2.2.2.2.2.2.2.2.2.2.2.2.2.2.2.2.2.2.2.2.2.2.2.2.2.2.2.2.2.1⟩:aL),(⟨w3.2.2.2.2.2.2.2.2.2.2.2.2.2.2.2.2.2.2.2.2.2.2.2.2.2.2.2.2.2.2.1⟩:aL),(⟨w3.2.2.2.2.2.2.2.2.2.2.2.2.2.2.2.2.2.2.2.2.2.2.2.2.2.2.2.2.2.2.2.1⟩:aL),w3.2.2.2.2.2.2.2.2.2.2.2.2.2.2.2.2.2.2.2.2.2.2.2.2.2.2.2.2.2.2.2.2.1,w3.2.2.2.2.2.2.2.2.2.2.2.2.2.2.2.2.2.2.2.2.2.2.2.2.2.2.2.2.2.2.2.2.2.1⟩:bq),w3.2.2.2.2.2.2.2.2.2.2.2.2.2.2.2.2.2.2.2.2.2.2.2.2.2.2.2.2.2.2.2.2.2.2.1,w3.2.2.2.2.2.2.2.2.2.2.2.2.2.2.2.2.2.2.2.2.2.2.2.2.2.2.2.2.2.2.2.2.2.2.2.1⟩:cC)) λaha=> ?_));refine aE<|au ?_ ?_
          ·exact ah
          ·refine ai (aeW w3.2.2.2.2.2.2.2.2.2.2.2.2.2.2.2.2.2.2.2.2.2.2.2.2.2.2.2.2.2.2.2.2.2.2.2.2.1) λado=>aG<|ai (aaj ado w3.2.2.2.2.2.2.2.2.2.2.2.2.2.2.2.2.2.2.2.2.2.2.2.2.2.2.2.2.2.2.2.2.2.2.2.2.2) λahb=>aE ah
         ·refine af (aE (aC (au ?_ ?_)))
          ·exact ah
          ·exact ah
      ·exact ah
     ·rcases w1 with p6|p7
      ·refine gD rfl (aC (ai (HI) λahc=>aE ah))
      ·refine gE rfl (bn rfl (af (aE (aC ah))))
end Dn.S
