import Derived.Test.YtmdlghpieagfhaaGreatDnYTab
import Derived.Test.YtmdlghpieagfhaaGreatDnC
import Derived.Test.YtmdlghpieagfhaaGreatDnYT
import Derived.KernelRfl
import Derived.Test.YtmdlghpieagfhaaGreatProg
/-
  The functions, on plain values, and their contracts. Conditions: none.
-/
set_option linter.unusedVariables false
set_option linter.unusedSimpArgs false
open Go.IntKind renaming wrap→fj,bits→IS
open Nat renaming beq→sh,eq_of_beq_eq_true→AT,le_of_ble_eq_true→IT
open Int renaming toNat→AI,fdiv→OF,tdiv→aaH,tmod→aaI
open List renaming drop→BY,take→IN,replicate→aav
open Go.Extern.SlicesOverlaps renaming overlaps→No
open Go.FloatKind renaming nearest→aay
open Option.some renaming injEq→aaJ
open Go Dn Go.Proofs
set_option maxRecDepth 100000
namespace Dn.S
noncomputable section
theorem rH:lS Tryz.prog (wC KG):=QS (by kernel_rfl)
theorem O5:Qs Tryz.prog (wC KG):=ZH (by kernel_rfl)
theorem Bi:Tryz.prog.follows .mixedOrders=true:=by kernel_rfl
def oII {R:Type}(k0 k1:IntKind)(l0:List MV)(K:Int->Int->Option R):Option R:=gC l0 λm0 l1=>gI k0 m0 λx0=>gC l1 λm1 l2=>gI k1 m1 λx1=>gN l2<|K x0 x1
def Yc {R:Type}(k0 k1 k3:IntKind)(l0:List MV)(K:Int->Int->Bool->Int->List UInt8->List MV->Option R):Option R:=gC l0 λm0 l1=>gI k0 m0 λx0=>gC l1 λm1 l2=>gI k1 m1 λx1=>gC l2 λm2 l3=>gB m2 λx2=>gC l3 λm3 l4=>gI k3 m3 λx3=>gC l4 λm4 l5=>gS m4 λx4=>gC l5 λm5 l6=>gL m5 λx5=>gN l6<|K x0 x1 x2 x3 x4 x5
def K3 {R:Type}(k0 k1 k2 k3 k5:IntKind)(l0:List MV)(K:Int->Int->Int->Int->Bool->Int->List UInt8->List MV->List MV->Option R):Option R:=gC l0 λm0 l1=>gI k0 m0 λx0=>gC l1 λm1 l2=>gI k1 m1 λx1=>gC l2 λm2 l3=>gI k2 m2 λx2=>gC l3 λm3 l4=>gI k3 m3 λx3=>gC l4 λm4 l5=>gB m4 λx4=>gC l5 λm5 l6=>gI k5 m5 λx5=>gC l6 λm6 l7=>gS m6 λx6=>gC l7 λm7 l8=>gL m7 λx7=>gC l8 λm8 l9=>gL m8 λx8=>gN l9<|K x0 x1 x2 x3 x4 x5 x6 x7 x8
def dB {R:Type}(k0 k1 k2 k3 k5 k9 Q7 Yd:IntKind)(l0:List MV)(K:Int->Int->Int->Int->Bool->Int->List UInt8->List MV->List MV->Int->Int->List MV->List MV->List MV->Bool->List UInt8->List MV->Int->Option R):Option R:=gC l0 λm0 l1=>gI k0 m0 λx0=>gC l1 λm1 l2=>gI k1 m1 λx1=>gC l2 λm2 l3=>gI k2 m2 λx2=>gC l3 λm3 l4=>gI k3 m3 λx3=>gC l4 λm4 l5=>gB m4 λx4=>gC l5 λm5 l6=>gI k5 m5 λx5=>gC l6 λm6 l7=>gS m6 λx6=>gC l7 λm7 l8=>gL m7 λx7=>gC l8 λm8 l9=>gL m8 λx8=>gC l9 λm9 l10=>gI k9 m9 λx9=>gC l10 λEa l11=>gI Q7 Ea λll=>gC l11 λFm l12=>gL Fm λlm=>gC l12 λvW l13=>gL vW λmB=>gC l13 λCL l14=>gL CL λlN=>gC l14 λBj l15=>gB Bj λnB=>gC l15 λCM l16=>gS CM λpQ=>gC l16 λK4 l17=>gL K4 λrh=>gC l17 λBk l18=>gI Yd Bk λpa=>gN l18<|K x0 x1 x2 x3 x4 x5 x6 x7 x8 x9 ll lm mB lN nB pQ rh pa
def dm {R:Type}(k0 k1 k2 k3 k5 k9 Q7 Yd k18 k19 k20 k21 k23 k27 k28 k35:IntKind)(l0:List MV)(K:Int->Int->Int->Int->Bool->Int->List UInt8->List MV->List MV->Int->Int->List MV->List MV->List MV->Bool->List UInt8->List MV->Int->Int->Int->Int->Int->Bool->Int->List UInt8->List MV->List MV->Int->Int->List MV->List MV->List MV->Bool->List UInt8->List MV->Int->List MV->List MV->Option R):Option R:=gC l0 λm0 l1=>gI k0 m0 λx0=>gC l1 λm1 l2=>gI k1 m1 λx1=>gC l2 λm2 l3=>gI k2 m2 λx2=>gC l3 λm3 l4=>gI k3 m3 λx3=>gC l4 λm4 l5=>gB m4 λx4=>gC l5 λm5 l6=>gI k5 m5 λx5=>gC l6 λm6 l7=>gS m6 λx6=>gC l7 λm7 l8=>gL m7 λx7=>gC l8 λm8 l9=>gL m8 λx8=>gC l9 λm9 l10=>gI k9 m9 λx9=>gC l10 λEa l11=>gI Q7 Ea λll=>gC l11 λFm l12=>gL Fm λlm=>gC l12 λvW l13=>gL vW λmB=>gC l13 λCL l14=>gL CL λlN=>gC l14 λBj l15=>gB Bj λnB=>gC l15 λCM l16=>gS CM λpQ=>gC l16 λK4 l17=>gL K4 λrh=>gC l17 λBk l18=>gI Yd Bk λpa=>gC l18 λHi l19=>gI k18 Hi λyT=>gC l19 λNt l20=>gI k19 Nt λEb=>gC l20 λK5 l21=>gI k20 K5 λGS=>gC l21 λm21 l22=>gI k21 m21 λHj=>gC l22 λm22 l23=>gB m22 λFo=>gC l23 λm23 l24=>gI k23 m23 λI4=>gC l24 λWr l25=>gS Wr λJy=>gC l25 λm25 l26=>gL m25 λI5=>gC l26 λTu l27=>gL Tu λI6=>gC l27 λm27 l28=>gI k27 m27 λI7=>gC l28 λZT l29=>gI k28 ZT λJz=>gC l29 λm29 l30=>gL m29 λJA=>gC l30 λWs l31=>gL Ws λJB=>gC l31 λm31 l32=>gL m31 λJC=>gC l32 λm32 l33=>gB m32 λJD=>gC l33 λm33 l34=>gS m33 λJE=>gC l34 λm34 l35=>gL m34 λNu=>gC l35 λm35 l36=>gI k35 m35 λQ8=>gC l36 λm36 l37=>gL m36 λQ9=>gC l37 λm37 l38=>gL m37 λRa=>gN l38<|K x0 x1 x2 x3 x4 x5 x6 x7 x8 x9 ll lm mB lN nB pQ rh pa yT Eb GS Hj Fo I4 Jy I5 I6 I7 Jz JA JB JC JD JE Nu Q8 Q9 Ra
def dQ {R:Type}(k0 k1 k2 k3 k5 k9 Q7 Yd:IntKind)(l0:List MV)(K:Int->Int->Int->Int->Bool->Int->List UInt8->List MV->List MV->Int->Int->List MV->List MV->List MV->Bool->List UInt8->List MV->Int->List MV->Option R):Option R:=gC l0 λm0 l1=>gI k0 m0 λx0=>gC l1 λm1 l2=>gI k1 m1 λx1=>gC l2 λm2 l3=>gI k2 m2 λx2=>gC l3 λm3 l4=>gI k3 m3 λx3=>gC l4 λm4 l5=>gB m4 λx4=>gC l5 λm5 l6=>gI k5 m5 λx5=>gC l6 λm6 l7=>gS m6 λx6=>gC l7 λm7 l8=>gL m7 λx7=>gC l8 λm8 l9=>gL m8 λx8=>gC l9 λm9 l10=>gI k9 m9 λx9=>gC l10 λEa l11=>gI Q7 Ea λll=>gC l11 λFm l12=>gL Fm λlm=>gC l12 λvW l13=>gL vW λmB=>gC l13 λCL l14=>gL CL λlN=>gC l14 λBj l15=>gB Bj λnB=>gC l15 λCM l16=>gS CM λpQ=>gC l16 λK4 l17=>gL K4 λrh=>gC l17 λBk l18=>gI Yd Bk λpa=>gC l18 λHi l19=>gL Hi λyT=>gN l19<|K x0 x1 x2 x3 x4 x5 x6 x7 x8 x9 ll lm mB lN nB pQ rh pa yT
def tz {R:Type}(k0 k1 k2 k3 k4 k5 k8 k9 k12 k13 k15:IntKind)(l0:List MV)(K:Int->Int->Int->Int->Int->Int->List UInt8->List MV->Int->Int->List UInt8->List MV->Int->Int->Bool->Int->List UInt8->List MV->Option R):Option R:=gC l0 λm0 l1=>gI k0 m0 λx0=>gC l1 λm1 l2=>gI k1 m1 λx1=>gC l2 λm2 l3=>gI k2 m2 λx2=>gC l3 λm3 l4=>gI k3 m3 λx3=>gC l4 λm4 l5=>gI k4 m4 λx4=>gC l5 λm5 l6=>gI k5 m5 λx5=>gC l6 λm6 l7=>gS m6 λx6=>gC l7 λm7 l8=>gL m7 λx7=>gC l8 λm8 l9=>gI k8 m8 λx8=>gC l9 λm9 l10=>gI k9 m9 λx9=>gC l10 λEa l11=>gS Ea λll=>gC l11 λFm l12=>gL Fm λlm=>gC l12 λvW l13=>gI k12 vW λmB=>gC l13 λCL l14=>gI k13 CL λlN=>gC l14 λBj l15=>gB Bj λnB=>gC l15 λCM l16=>gI k15 CM λpQ=>gC l16 λK4 l17=>gS K4 λrh=>gC l17 λBk l18=>gL Bk λpa=>gN l18<|K x0 x1 x2 x3 x4 x5 x6 x7 x8 x9 ll lm mB lN nB pQ rh pa
def kD {R:Type}(k0 k1 k2 k5 k6 k9 Q7 k12:IntKind)(l0:List MV)(K:Int->Int->Int->List UInt8->List MV->Int->Int->List UInt8->List MV->Int->Int->Bool->Int->List UInt8->List MV->Option R):Option R:=gC l0 λm0 l1=>gI k0 m0 λx0=>gC l1 λm1 l2=>gI k1 m1 λx1=>gC l2 λm2 l3=>gI k2 m2 λx2=>gC l3 λm3 l4=>gS m3 λx3=>gC l4 λm4 l5=>gL m4 λx4=>gC l5 λm5 l6=>gI k5 m5 λx5=>gC l6 λm6 l7=>gI k6 m6 λx6=>gC l7 λm7 l8=>gS m7 λx7=>gC l8 λm8 l9=>gL m8 λx8=>gC l9 λm9 l10=>gI k9 m9 λx9=>gC l10 λEa l11=>gI Q7 Ea λll=>gC l11 λFm l12=>gB Fm λlm=>gC l12 λvW l13=>gI k12 vW λmB=>gC l13 λCL l14=>gS CL λlN=>gC l14 λBj l15=>gL Bj λnB=>gN l15<|K x0 x1 x2 x3 x4 x5 x6 x7 x8 x9 ll lm mB lN nB
def yu {R:Type}(k0 k1:IntKind)(l0:List MV)(K:Int->Int->List MV->List MV->List MV->Bool->List UInt8->Option R):Option R:=gC l0 λm0 l1=>gI k0 m0 λx0=>gC l1 λm1 l2=>gI k1 m1 λx1=>gC l2 λm2 l3=>gL m2 λx2=>gC l3 λm3 l4=>gL m3 λx3=>gC l4 λm4 l5=>gL m4 λx4=>gC l5 λm5 l6=>gB m5 λx5=>gC l6 λm6 l7=>gS m6 λx6=>gN l7<|K x0 x1 x2 x3 x4 x5 x6
def ml {R:Type}(k0 k1:IntKind)(l0:List MV)(K:Int->Int->List MV->List MV->List MV->List MV->Option R):Option R:=gC l0 λm0 l1=>gI k0 m0 λx0=>gC l1 λm1 l2=>gI k1 m1 λx1=>gC l2 λm2 l3=>gL m2 λx2=>gC l3 λm3 l4=>gL m3 λx3=>gC l4 λm4 l5=>gL m4 λx4=>gC l5 λm5 l6=>gL m5 λx5=>gN l6<|K x0 x1 x2 x3 x4 x5
def ape {R:Type}(k0 k1:IntKind)(l0:List MV)(K:Int->Int->List UInt8->Option R):Option R:=gC l0 λm0 l1=>gI k0 m0 λx0=>gC l1 λm1 l2=>gI k1 m1 λx1=>gC l2 λm2 l3=>gS m2 λx2=>gN l3<|K x0 x1 x2
def Wt {R:Type}(k0 k2:IntKind)(l0:List MV)(K:Int->List MV->Int->Option R):Option R:=gC l0 λm0 l1=>gI k0 m0 λx0=>gC l1 λm1 l2=>gL m1 λx1=>gC l2 λm2 l3=>gI k2 m2 λx2=>gN l3<|K x0 x1 x2
def ahp {R:Type}(k0:IntKind)(l0:List MV)(K:Int->List UInt8->Bool->Option R):Option R:=gC l0 λm0 l1=>gI k0 m0 λx0=>gC l1 λm1 l2=>gS m1 λx1=>gC l2 λm2 l3=>gB m2 λx2=>gN l3<|K x0 x1 x2
def oLB {R:Type}(l0:List MV)(K:List MV->Bool->Option R):Option R:=gC l0 λm0 l1=>gL m0 λx0=>gC l1 λm1 l2=>gB m1 λx1=>gN l2<|K x0 x1
def oLI {R:Type}(k1:IntKind)(l0:List MV)(K:List MV->Int->Option R):Option R:=gC l0 λm0 l1=>gL m0 λx0=>gC l1 λm1 l2=>gI k1 m1 λx1=>gN l2<|K x0 x1
def Tv {R:Type}(l0:List MV)(K:List MV->List MV->Bool->Option R):Option R:=gC l0 λm0 l1=>gL m0 λx0=>gC l1 λm1 l2=>gL m1 λx1=>gC l2 λm2 l3=>gB m2 λx2=>gN l3<|K x0 x1 x2
def oSB {R:Type}(l0:List MV)(K:List UInt8->Bool->Option R):Option R:=gC l0 λm0 l1=>gS m0 λx0=>gC l1 λm1 l2=>gB m1 λx1=>gN l2<|K x0 x1
abbrev nX {R:Type}:= @tz R .i64 .i64 .i64 .i64 .i64 .i64 .i64 .i64 .i64 .i64 .i64
abbrev cL {R:Type}:= @Yc R .i64 .i64 .i64
abbrev oT {R:Type}:= @oII R .i64 .i64
abbrev cJ {R:Type}:= @K3 R .i64 .i64 .i64 .i64 .i64
abbrev di {R:Type}:= @yu R .i64 .i64
abbrev aF {R:Type}:= @dB R .i64 .i64 .i64 .i64 .i64 .i64 .i64 .i64
abbrev dW {R:Type}:= @ml R .i64 .i64
abbrev Dk {R:Type}:= @oLI R .i64
abbrev akI {R:Type}:= @Wt R .i64 .i64
abbrev eJ {R:Type}:= @ape R .i64 .i64
abbrev Hk {R:Type}:= @ahp R .i64
abbrev bS {R:Type}:= @kD R .i64 .i64 .i64 .i64 .i64 .i64 .i64 .i64
@[reducible] def cD (x0 : Int)(x1 : Int)(x2 : Bool)(x3 : Int)(x4 : List UInt8)(x5 : List MV) : List MV := [.i .i64 x0, .i .i64 x1, .b x2, .i .i64 x3, .s x4, .list x5]
@[reducible] def br (x0 : Int)(x1 : Int)(x2 : Int)(x3 : Int)(x4 : Bool)(x5 : Int)(x6 : List UInt8)(x7 : List MV)(x8 : List MV) : List MV := [.i .i64 x0, .i .i64 x1, .i .i64 x2, .i .i64 x3, .b x4, .i .i64 x5, .s x6, .list x7, .list x8]
@[reducible] def al (x0 : Int)(x1 : Int)(x2 : Int)(x3 : Int)(x4 : Bool)(x5 : Int)(x6 : List UInt8)(x7 : List MV)(x8 : List MV)(x9 : Int)(ll : Int)(lm : List MV)(mB : List MV)(lN : List MV)(nB : Bool)(pQ : List UInt8)(rh : List MV)(pa : Int) : List MV := [.i .i64 x0, .i .i64 x1, .i .i64 x2, .i .i64 x3, .b x4, .i .i64 x5, .s x6, .list x7, .list x8, .i .i64 x9, .i .i64 ll, .list lm, .list mB, .list lN, .b nB, .s pQ, .list rh, .i .i64 pa]
@[reducible] def bu (x0 : Int)(x1 : Int)(x2 : Int)(x3 : Int)(x4 : Bool)(x5 : Int)(x6 : List UInt8)(x7 : List MV)(x8 : List MV)(x9 : Int)(ll : Int)(lm : List MV)(mB : List MV)(lN : List MV)(nB : Bool)(pQ : List UInt8)(rh : List MV)(pa : Int)(yT : Int)(Eb : Int)(GS : Int)(Hj : Int)(Fo : Bool)(I4 : Int)(Jy : List UInt8)(I5 : List MV)(I6 : List MV)(I7 : Int)(Jz : Int)(JA : List MV)(JB : List MV)(JC : List MV)(JD : Bool)(JE : List UInt8)(Nu : List MV)(Q8 : Int)(Q9 : List MV)(Ra : List MV) : List MV := [.i .i64 x0, .i .i64 x1, .i .i64 x2, .i .i64 x3, .b x4, .i .i64 x5, .s x6, .list x7, .list x8, .i .i64 x9, .i .i64 ll, .list lm, .list mB, .list lN, .b nB, .s pQ, .list rh, .i .i64 pa, .i .i64 yT, .i .i64 Eb, .i .i64 GS, .i .i64 Hj, .b Fo, .i .i64 I4, .s Jy, .list I5, .list I6, .i .i64 I7, .i .i64 Jz, .list JA, .list JB, .list JC, .b JD, .s JE, .list Nu, .i .i64 Q8, .list Q9, .list Ra]
@[reducible] def bl (x0 : Int)(x1 : Int)(x2 : Int)(x3 : Int)(x4 : Bool)(x5 : Int)(x6 : List UInt8)(x7 : List MV)(x8 : List MV)(x9 : Int)(ll : Int)(lm : List MV)(mB : List MV)(lN : List MV)(nB : Bool)(pQ : List UInt8)(rh : List MV)(pa : Int)(yT : List MV) : List MV := [.i .i64 x0, .i .i64 x1, .i .i64 x2, .i .i64 x3, .b x4, .i .i64 x5, .s x6, .list x7, .list x8, .i .i64 x9, .i .i64 ll, .list lm, .list mB, .list lN, .b nB, .s pQ, .list rh, .i .i64 pa, .list yT]
@[reducible] def ay (x0 : Int)(x1 : Int)(x2 : Int)(x3 : List UInt8)(x4 : List MV)(x5 : Int)(x6 : Int)(x7 : List UInt8)(x8 : List MV)(x9 : Int)(ll : Int)(lm : Bool)(mB : Int)(lN : List UInt8)(nB : List MV) : List MV := [.i .i64 x0, .i .i64 x1, .i .i64 x2, .s x3, .list x4, .i .i64 x5, .i .i64 x6, .s x7, .list x8, .i .i64 x9, .i .i64 ll, .b lm, .i .i64 mB, .s lN, .list nB]
@[reducible] def bJ (x0 : Int)(x1 : Int)(x2 : List MV)(x3 : List MV)(x4 : List MV)(x5 : Bool)(x6 : List UInt8) : List MV := [.i .i64 x0, .i .i64 x1, .list x2, .list x3, .list x4, .b x5, .s x6]
@[reducible] def bx (x0 : Int)(x1 : Int)(x2 : List MV)(x3 : List MV)(x4 : List MV)(x5 : List MV) : List MV := [.i .i64 x0, .i .i64 x1, .list x2, .list x3, .list x4, .list x5]
def K6:List (Nat×p0)->Nat->p0
 |[],_=>default
 |(k,s)::r,t=>bif sh k t then s else K6 r t
def Tw:List (Nat×List Nat)->Nat->List Nat
 |[],_=>[]
 |(k,s)::r,t=>bif sh k t then s else Tw r t
def Tx:List (Nat×Nat)->Nat->Nat
 |[],_=>0
 |(k,s)::r,t=>bif sh k t then s else Tx r t
def kk (n:Nat):Nat:=n
def gv (n:Nat):Bool:=bU [108,157,47,72,75,76,77,101,126,127,128,141] n
def frs (n:Nat):Bool:=bU [59,69,70,74,108,156,157,170,131,132,174,137,138,187,140] n
def Ye:List (Nat×Nat):=[(59,60),(69,4),(70,9),(74,40),(108,60),(156,58),(157,58),(170,5),(131,5),(132,5),(174,5),(137,5),(138,5)]
def K7:List (Nat×FloatKind)->Nat->Option FloatKind
 |[],_=>none
 |(k,s)::r,t=>bif sh k t then some s else K7 r t
def O6:List (Nat×FloatKind):=[(215,.f64)]
theorem O7: ∀t k,K7 O6 t=some k->Tryz.prog.underlying t=some (.float k):=by
 intro t k h;unfold O6 at h;simp only [K7] at h;cases hb:sh 215 t with
 |true=>rw [hb] at h;have ht:=AT hb;subst ht;simp only [cond_true,aaJ] at h;subst h;exact Tryz.underlying215
 |false=>
 rw [hb] at h;simp only [cond_false] at h;cases h
def O8:List (Nat×(Nat×Bool)):=[(197,(9,false)),(249,(251,false))]
def Ii:List (Nat×(Nat×List LK))->Nat->Option (Nat×List LK)
 |[],_=>none
 |(k,s)::r,t=>bif sh k t then some s else Ii r t
abbrev aiX:List LK:=[.k (.i .i64),.k (.i .i64),.k (.i .i64),.k (.i .i64),.k (.b),.k (.i .i64),.k (.s),.k (.l),.k (.l),.k (.i .i64),.k (.i .i64),.k (.l),.k (.l),.k (.l),.k (.b),.k (.s),.k (.l),.k (.i .i64)]
abbrev aiY:List LK:=[.k (.i .i64),.k (.i .i64),.k (.l),.k (.l),.k (.l),.k (.l)]
abbrev Ij:List LK:=[.k (.i .i64),.k (.i .i64),.k (.l),.k (.l),.own 2000004 40 false,.k (.l)]
abbrev O9:List LK:=[.k (.i .i64),.k (.i .i64),.k (.l),.k (.l),.k (.l),.k (.b),.k (.s)]
abbrev Pa:List LK:=[.k (.l),.k (.i .i64)]
def Rb:List (Nat×(Nat×List LK)):=[(47,(0,aiX)),(72,(0,aiY)),(75,(0,Ij)),(76,(0,Ij)),(77,(0,Ij)),(101,(1,O9)),(126,(0,Pa)),(127,(0,Pa)),(128,(0,Pa)),(141,(0,Ij))]
def dl (n:Nat):Bool:=bU [] n
def cx:Ctx:=⟨wC KG,kk,λ_ _=>none,gv,frs,Tx Ye,Ii Rb,[],0,[],[],λ_=>[],K7 O6,E8 O8,λ_=>[],λ_=>default,λ_=>default,λ_=>default,dl,[]⟩
def Sg (g:Nat->List MV->Option MV)(par:List (Nat×Nat))(n:Nat)(bs fl:List Nat)(fz ord:List (Nat×List Nat))(CH BQ xI:List (Nat×p0))(dyn:List Nat):Ctx:=⟨wC KG,kk,g,gv,frs,Tx Ye,Ii Rb,par,n,bs,fl,Tw fz,K7 O6,E8 O8,Tw ord,K6 CH,K6 BQ,K6 xI,dl,dyn⟩
theorem Ty:zf Tryz.prog cx:=KK (l:=O8) (by kernel_rfl) (λ_ _ h=>h)
def mC (t:Nat):TI:=match wC KG t with|some I=>I|none=>⟨false,0,0,[],[],[],[],0,[]⟩
theorem tv4:cx.tv 4=some (mC 4):=by kernel_rfl
theorem tv9:cx.tv 9=some (mC 9):=by kernel_rfl
theorem awf:cx.tv 24=some (mC 24):=by kernel_rfl
theorem awg:cx.tv 25=some (mC 25):=by kernel_rfl
theorem apf:cx.tv 31=some (mC 31):=by kernel_rfl
theorem apg:cx.tv 38=some (mC 38):=by kernel_rfl
theorem awh:cx.tv 40=some (mC 40):=by kernel_rfl
theorem aph:cx.tv 58=some (mC 58):=by kernel_rfl
theorem apj:cx.tv 60=some (mC 60):=by kernel_rfl
theorem awi:cx.tv 82=some (mC 82):=by kernel_rfl
theorem Fp:td Tryz.prog cx:=by intro n hn;unfold cx dl bU at hn;cases hn
abbrev GT:=Nat->List MV->Option MV
abbrev SG (g:GT):Prop:=dV Tryz.prog cx g
theorem akJ {g:GT}(h:SG g):SG (bt 59 (jT 6 72) g):=h.Wo (λ_=>rfl) (λms r hr=>by obtain ⟨xs,rfl,rfl,h1,h2⟩:=sE hr;exact A4 (P:=Tryz.prog) (c:=cx) (f:=59) (fn:=Tryz.f59) (t:=38) (I:=mC 38) (E:=mC 60) (i0:=0) (i1:=1) (i2:=2) (i3:=3) (oA:=jy Tryz.f59 jz 0) (oB:=jy Tryz.f59 jz 1) (oC:=jy Tryz.f59 jz 2) (oD:=jy Tryz.f59 jz 3) (oE:=jy Tryz.f59 jz 4) (oF:=jy Tryz.f59 jz 5) (oG:=jy Tryz.f59 jz 6) (oH:=jy Tryz.f59 jz 7) rH apg (by kernel_rfl) apj (IT (by kernel_rfl)) (by kernel_rfl) (by kernel_rfl) Tryz.func59 (by kernel_rfl) (by kernel_rfl) (by kernel_rfl) (by kernel_rfl) ⟨by kernel_rfl,by kernel_rfl,by kernel_rfl⟩ ⟨by kernel_rfl,by kernel_rfl,by kernel_rfl⟩ ⟨by kernel_rfl,by kernel_rfl,by kernel_rfl⟩ ⟨by kernel_rfl,by kernel_rfl,by kernel_rfl⟩ ⟨by kernel_rfl,by kernel_rfl,by kernel_rfl⟩ ⟨by kernel_rfl,by kernel_rfl,by kernel_rfl⟩ ⟨by kernel_rfl,by kernel_rfl,by kernel_rfl⟩ ⟨by kernel_rfl,by kernel_rfl,by kernel_rfl⟩ (by rw [show (mC 60).size=6 by kernel_rfl];exact h1) (by rw [show (mC 60).bytes=72 by kernel_rfl];exact h2))
theorem akK {g:GT}(h:SG g):SG (bt 69 (jT 1 1) g):=h.Wo (λ_=>rfl) (λms r hr=>by obtain ⟨xs,rfl,rfl,h1,h2⟩:=sE hr;exact A4 (P:=Tryz.prog) (c:=cx) (f:=69) (fn:=Tryz.f69) (t:=24) (I:=mC 24) (E:=mC 4) (i0:=0) (i1:=1) (i2:=2) (i3:=3) (oA:=jy Tryz.f69 jz 0) (oB:=jy Tryz.f69 jz 1) (oC:=jy Tryz.f69 jz 2) (oD:=jy Tryz.f69 jz 3) (oE:=jy Tryz.f69 jz 4) (oF:=jy Tryz.f69 jz 5) (oG:=jy Tryz.f69 jz 6) (oH:=jy Tryz.f69 jz 7) rH awf (by kernel_rfl) tv4 (IT (by kernel_rfl)) (by kernel_rfl) (by kernel_rfl) Tryz.func69 (by kernel_rfl) (by kernel_rfl) (by kernel_rfl) (by kernel_rfl) ⟨by kernel_rfl,by kernel_rfl,by kernel_rfl⟩ ⟨by kernel_rfl,by kernel_rfl,by kernel_rfl⟩ ⟨by kernel_rfl,by kernel_rfl,by kernel_rfl⟩ ⟨by kernel_rfl,by kernel_rfl,by kernel_rfl⟩ ⟨by kernel_rfl,by kernel_rfl,by kernel_rfl⟩ ⟨by kernel_rfl,by kernel_rfl,by kernel_rfl⟩ ⟨by kernel_rfl,by kernel_rfl,by kernel_rfl⟩ ⟨by kernel_rfl,by kernel_rfl,by kernel_rfl⟩ (by rw [show (mC 4).size=1 by kernel_rfl];exact h1) (by rw [show (mC 4).bytes=1 by kernel_rfl];exact h2))
theorem akL {g:GT}(h:SG g):SG (bt 70 (jT 1 16) g):=h.Wo (λ_=>rfl) (λms r hr=>by obtain ⟨xs,rfl,rfl,h1,h2⟩:=sE hr;exact A4 (P:=Tryz.prog) (c:=cx) (f:=70) (fn:=Tryz.f70) (t:=25) (I:=mC 25) (E:=mC 9) (i0:=0) (i1:=1) (i2:=2) (i3:=3) (oA:=jy Tryz.f70 jz 0) (oB:=jy Tryz.f70 jz 1) (oC:=jy Tryz.f70 jz 2) (oD:=jy Tryz.f70 jz 3) (oE:=jy Tryz.f70 jz 4) (oF:=jy Tryz.f70 jz 5) (oG:=jy Tryz.f70 jz 6) (oH:=jy Tryz.f70 jz 7) rH awg (by kernel_rfl) tv9 (IT (by kernel_rfl)) (by kernel_rfl) (by kernel_rfl) Tryz.func70 (by kernel_rfl) (by kernel_rfl) (by kernel_rfl) (by kernel_rfl) ⟨by kernel_rfl,by kernel_rfl,by kernel_rfl⟩ ⟨by kernel_rfl,by kernel_rfl,by kernel_rfl⟩ ⟨by kernel_rfl,by kernel_rfl,by kernel_rfl⟩ ⟨by kernel_rfl,by kernel_rfl,by kernel_rfl⟩ ⟨by kernel_rfl,by kernel_rfl,by kernel_rfl⟩ ⟨by kernel_rfl,by kernel_rfl,by kernel_rfl⟩ ⟨by kernel_rfl,by kernel_rfl,by kernel_rfl⟩ ⟨by kernel_rfl,by kernel_rfl,by kernel_rfl⟩ (by rw [show (mC 9).size=1 by kernel_rfl];exact h1) (by rw [show (mC 9).bytes=16 by kernel_rfl];exact h2))
theorem akM {g:GT}(h:SG g):SG (bt 74 (jT 18 256) g):=h.Wo (λ_=>rfl) (λms r hr=>by obtain ⟨xs,rfl,rfl,h1,h2⟩:=sE hr;exact A4 (P:=Tryz.prog) (c:=cx) (f:=74) (fn:=Tryz.f74) (t:=82) (I:=mC 82) (E:=mC 40) (i0:=0) (i1:=1) (i2:=2) (i3:=3) (oA:=jy Tryz.f74 jz 0) (oB:=jy Tryz.f74 jz 1) (oC:=jy Tryz.f74 jz 2) (oD:=jy Tryz.f74 jz 3) (oE:=jy Tryz.f74 jz 4) (oF:=jy Tryz.f74 jz 5) (oG:=jy Tryz.f74 jz 6) (oH:=jy Tryz.f74 jz 7) rH awi (by kernel_rfl) awh (IT (by kernel_rfl)) (by kernel_rfl) (by kernel_rfl) Tryz.func74 (by kernel_rfl) (by kernel_rfl) (by kernel_rfl) (by kernel_rfl) ⟨by kernel_rfl,by kernel_rfl,by kernel_rfl⟩ ⟨by kernel_rfl,by kernel_rfl,by kernel_rfl⟩ ⟨by kernel_rfl,by kernel_rfl,by kernel_rfl⟩ ⟨by kernel_rfl,by kernel_rfl,by kernel_rfl⟩ ⟨by kernel_rfl,by kernel_rfl,by kernel_rfl⟩ ⟨by kernel_rfl,by kernel_rfl,by kernel_rfl⟩ ⟨by kernel_rfl,by kernel_rfl,by kernel_rfl⟩ ⟨by kernel_rfl,by kernel_rfl,by kernel_rfl⟩ (by rw [show (mC 40).size=18 by kernel_rfl];exact h1) (by rw [show (mC 40).bytes=256 by kernel_rfl];exact h2))
theorem akN:OX Tryz.prog 108 38 3 4 60 163 Tryz.f108 (λk=>k) (jy Tryz.f108 jz) (X9 (jy Tryz.f108 jz)):=by refine ⟨Tryz.func108,by kernel_rfl,by kernel_rfl,by kernel_rfl,by kernel_rfl,?_,Bi,by kernel_rfl⟩;constructor<;>first|exact ⟨by kernel_rfl,by kernel_rfl,by kernel_rfl⟩|kernel_rfl
theorem apk: ∀args w,(callFunc 163 args).run Tryz.prog w=((No #[38,38] #[4] args).run Tryz.prog w).andThen λv w'=> .ok (.value v) w':=λargs w=>run_callFunc_extern Tryz.func163 (by kernel_rfl) (by kernel_rfl) (by kernel_rfl) (e:=No #[38,38] #[4]) (by kernel_rfl) args w
theorem ahs {g:GT}(h:SG g):SG (bt 108 (qi 72) g):=h.Wo (λ_=>rfl) (λms r hr=>by obtain ⟨xs,ys,i,rfl,rfl,h1,h2,h3⟩:=Fh hr;exact OZ (P:=Tryz.prog) (c:=cx) (I:=mC 38) (E:=mC 60) akN rH apg (by kernel_rfl) apj (IT (by kernel_rfl)) (by kernel_rfl) (by kernel_rfl) (by kernel_rfl) (by kernel_rfl) apk h1 h2 (by rw [show (mC 60).bytes=72 by kernel_rfl];exact h3))
theorem aht {g:GT}(h:SG g):SG (bt 156 (jT 3 32) g):=h.Wo (λ_=>rfl) (λms r hr=>by obtain ⟨xs,rfl,rfl,h1,h2⟩:=sE hr;exact A4 (P:=Tryz.prog) (c:=cx) (f:=156) (fn:=Tryz.f156) (t:=31) (I:=mC 31) (E:=mC 58) (i0:=0) (i1:=1) (i2:=2) (i3:=3) (oA:=jy Tryz.f156 jz 0) (oB:=jy Tryz.f156 jz 1) (oC:=jy Tryz.f156 jz 2) (oD:=jy Tryz.f156 jz 3) (oE:=jy Tryz.f156 jz 4) (oF:=jy Tryz.f156 jz 5) (oG:=jy Tryz.f156 jz 6) (oH:=jy Tryz.f156 jz 7) rH apf (by kernel_rfl) aph (IT (by kernel_rfl)) (by kernel_rfl) (by kernel_rfl) Tryz.func156 (by kernel_rfl) (by kernel_rfl) (by kernel_rfl) (by kernel_rfl) ⟨by kernel_rfl,by kernel_rfl,by kernel_rfl⟩ ⟨by kernel_rfl,by kernel_rfl,by kernel_rfl⟩ ⟨by kernel_rfl,by kernel_rfl,by kernel_rfl⟩ ⟨by kernel_rfl,by kernel_rfl,by kernel_rfl⟩ ⟨by kernel_rfl,by kernel_rfl,by kernel_rfl⟩ ⟨by kernel_rfl,by kernel_rfl,by kernel_rfl⟩ ⟨by kernel_rfl,by kernel_rfl,by kernel_rfl⟩ ⟨by kernel_rfl,by kernel_rfl,by kernel_rfl⟩ (by rw [show (mC 58).size=3 by kernel_rfl];exact h1) (by rw [show (mC 58).bytes=32 by kernel_rfl];exact h2))
theorem akO:OX Tryz.prog 157 31 3 4 58 181 Tryz.f157 (λk=>k) (jy Tryz.f157 jz) (X9 (jy Tryz.f157 jz)):=by refine ⟨Tryz.func157,by kernel_rfl,by kernel_rfl,by kernel_rfl,by kernel_rfl,?_,Bi,by kernel_rfl⟩;constructor<;>first|exact ⟨by kernel_rfl,by kernel_rfl,by kernel_rfl⟩|kernel_rfl
theorem apl: ∀args w,(callFunc 181 args).run Tryz.prog w=((No #[31,31] #[4] args).run Tryz.prog w).andThen λv w'=> .ok (.value v) w':=λargs w=>run_callFunc_extern Tryz.func181 (by kernel_rfl) (by kernel_rfl) (by kernel_rfl) (e:=No #[31,31] #[4]) (by kernel_rfl) args w
theorem ahu {g:GT}(h:SG g):SG (bt 157 (qi 32) g):=h.Wo (λ_=>rfl) (λms r hr=>by obtain ⟨xs,ys,i,rfl,rfl,h1,h2,h3⟩:=Fh hr;exact OZ (P:=Tryz.prog) (c:=cx) (I:=mC 31) (E:=mC 58) akO rH apf (by kernel_rfl) aph (IT (by kernel_rfl)) (by kernel_rfl) (by kernel_rfl) (by kernel_rfl) (by kernel_rfl) apl h1 h2 (by rw [show (mC 58).bytes=32 by kernel_rfl];exact h3))
def H59:GT:=bt 59 (jT 6 72) (λ_ _=>none)
theorem ads:SG H59:=akJ (dV.none _ _)
def H69:GT:=bt 69 (jT 1 1) H59
theorem adt:SG H69:=akK ads
def H70:GT:=bt 70 (jT 1 16) H69
theorem adu:SG H70:=akL adt
def H74:GT:=bt 74 (jT 18 256) H70
theorem adv:SG H74:=akM adu
def apm:GT:=bt 108 (qi 72) H74
theorem ZU:SG apm:=ahs adv
def apn:GT:=bt 156 (jT 3 32) apm
theorem ZV:SG apn:=aht ZU
def apo:GT:=bt 157 (qi 32) apn
theorem ZW:SG apo:=ahu ZV
abbrev aiZ:List LK:=[.k (.i .i64),.k (.i .i64),.k (.l),.k (.l),.own 2000004 40 false,.k (.l)]
def JF:List (Nat×(Nat×List LK)):=(72,(0,aiZ))::Rb
def Yf:Ctx:=⟨wC KG,kk,λ_ _=>none,gv,frs,Tx Ye,Ii JF,[],0,[],[],λ_=>[],K7 O6,E8 O8,λ_=>[],λ_=>default,λ_=>default,λ_=>default,dl,[]⟩
def akP (g:GT)(par:List (Nat×Nat))(n:Nat)(bs fl:List Nat)(fz ord:List (Nat×List Nat))(CH BQ xI:List (Nat×p0))(dyn:List Nat):Ctx:=⟨wC KG,kk,g,gv,frs,Tx Ye,Ii JF,par,n,bs,fl,Tw fz,K7 O6,E8 O8,Tw ord,K6 CH,K6 BQ,K6 xI,dl,dyn⟩
theorem akQ:zf Tryz.prog Yf:=KK (l:=O8) (by kernel_rfl) (λ_ _ h=>h)
theorem adw:td Tryz.prog Yf:=by intro n hn;unfold Yf dl bU at hn;cases hn
theorem adx:Ig 72 cx Yf:=⟨rfl,rfl,rfl,rfl,rfl,λk hk=>by
 show Ii JF k=Ii Rb k;unfold JF Ii;rw [show sh 72 k=false from by
  cases hb:sh 72 k with
  |false=>rfl
  |true=>exact absurd (AT hb).symm hk]
 rfl⟩
theorem akR:Ig 72 Yf cx:=⟨rfl,rfl,rfl,rfl,rfl,λk hk=>(adx.sig k hk).symm⟩
theorem pX {g:GT}(s:SG g)(dI:List (List Kd))(par:List (Nat×Nat))(tn:Nat)(bs fl:List Nat)(fz ord:List (Nat×List Nat))(CH BQ xI:List (Nat×p0))(dyn:List Nat){n:Nat}{fn:Func}{F:List MV->Option MV}(hf:Tryz.prog.funcs[n]? =some fn)(hh:Di (Sg g par tn bs fl fz ord CH BQ xI dyn) n fn dI=true)(hF: ∀{ms r},F ms=some r->Oo (Sg g par tn bs fl fz ord CH BQ xI dyn) dI none fn ms=some r):SG (bt n F g):=s.fn (c':=Sg g par tn bs fl fz ord CH BQ xI dyn) ⟨rfl,rfl,rfl,rfl,rfl,rfl,rfl,rfl,rfl⟩ rfl rH O5 O7 Ty Bi Fp hf hh (λ_=>rfl) (fresh:=none) rfl hF
theorem ln {g:GT}(s:SG g)(dI:List (List Kd))(tn:Nat)(CH BQ xI:List (Nat×p0)){n:Nat}{fn:Func}{F:List MV->Option MV}(hf:Tryz.prog.funcs[n]? =some fn)(hh:Di (Sg g [] tn [] [] [] [] CH BQ xI []) n fn dI=true)(hF: ∀{ms r},F ms=some r->Oo (Sg g [] tn [] [] [] [] CH BQ xI []) dI none fn ms=some r):SG (bt n F g):=pX s dI [] tn [] [] [] [] CH BQ xI [] hf hh hF
theorem fnC {g:GT}(s:SG g)(pos:Nat)(ks:List LK)(dI:List (List Kd))(par:List (Nat×Nat))(tn:Nat)(bs fl:List Nat)(fz ord:List (Nat×List Nat))(CH BQ xI:List (Nat×p0))(dyn:List Nat){n:Nat}{fn:Func}{F:List MV->Option MV}(hf:Tryz.prog.funcs[n]? =some fn)(hs:cx.sig n=some (pos,ks))(hh:Th (Sg g par tn bs fl fz ord CH BQ xI dyn) n fn dI=true)(hF: ∀{ms r},F ms=some r->EH (Sg g par tn bs fl fz ord CH BQ xI dyn) dI pos ks fn ms=some r):SG (bt n F g):=s.fnC rH O5 O7 Ty Bi Fp hf hs (λ_=>rfl) λh=>⟨Sg g par tn bs fl fz ord CH BQ xI dyn,⟨rfl,rfl,rfl,rfl,rfl,rfl,rfl,rfl,rfl⟩,rfl,hh,hF h⟩
theorem ady {g:GT}(s:dV Tryz.prog Yf g)(pos:Nat)(ks:List LK)(dI:List (List Kd))(par:List (Nat×Nat))(tn:Nat)(bs fl:List Nat)(fz ord:List (Nat×List Nat))(CH BQ xI:List (Nat×p0))(dyn:List Nat){n:Nat}{fn:Func}{F:List MV->Option MV}(hf:Tryz.prog.funcs[n]? =some fn)(hs:Yf.sig n=some (pos,ks))(hh:Th (akP g par tn bs fl fz ord CH BQ xI dyn) n fn dI=true)(hF: ∀{ms r},F ms=some r->EH (akP g par tn bs fl fz ord CH BQ xI dyn) dI pos ks fn ms=some r):dV Tryz.prog Yf (bt n F g):=s.fnC rH O5 O7 akQ Bi adw hf hs (λ_=>rfl) λh=>⟨akP g par tn bs fl fz ord CH BQ xI dyn,⟨rfl,rfl,rfl,rfl,rfl,rfl,rfl,rfl,rfl⟩,rfl,hh,hF h⟩
theorem fnF {g:GT}(s:SG g)(ty:Nat)(dI:List (List Kd))(par:List (Nat×Nat))(tn:Nat)(bs fl:List Nat)(fz ord:List (Nat×List Nat))(CH BQ xI:List (Nat×p0))(dyn:List Nat){n:Nat}{fn:Func}{F:List MV->Option MV}(hf:Tryz.prog.funcs[n]? =some fn)(hh:Di (Sg g par tn bs fl fz ord CH BQ xI dyn) n fn dI=true)(IR:DX (Sg g par tn bs fl fz ord CH BQ xI dyn) n fn (some ty)=true)(hF: ∀{ms r},F ms=some r->Oo (Sg g par tn bs fl fz ord CH BQ xI dyn) dI (some ty) fn ms=some r):SG (bt n F g):=s.fn (c':=Sg g par tn bs fl fz ord CH BQ xI dyn) ⟨rfl,rfl,rfl,rfl,rfl,rfl,rfl,rfl,rfl⟩ rfl rH O5 O7 Ty Bi Fp hf hh (λ_=>rfl) IR hF
theorem fnX {g:GT}(s:SG g)(dI:List (List Kd))(par:List (Nat×Nat))(tn:Nat)(bs fl:List Nat)(fz ord:List (Nat×List Nat))(CH BQ xI:List (Nat×p0))(dyn:List Nat){n:Nat}{fn:Func}{F:List MV->Option MV}(hf:Tryz.prog.funcs[n]? =some fn)(hh:Di (Sg g par tn bs fl fz ord CH BQ xI dyn) n fn dI=true)(hF: ∀{ms r},F ms=some r->To (Sg g par tn bs fl fz ord CH BQ xI dyn) dI none fn ms=some r):SG (bt n F g):=s.fnX (c':=Sg g par tn bs fl fz ord CH BQ xI dyn) ⟨rfl,rfl,rfl,rfl,rfl,rfl,rfl,rfl,rfl⟩ rfl rH O5 O7 Ty Bi Fp hf hh (λ_=>rfl) (fresh:=none) rfl hF
abbrev cl1 (d:List MV->Option MV):List MV->Option MV:=λms=>match ms with|[.cell (.func off a0)]=>(match sh off 0 with|true=>d a0|false=>none)|_=>none
theorem Wu {d:List MV->Option MV}{B:List MV->Option MV}(h: ∀a0,B [.cell (.func 0 a0)]=d a0){ms:List MV}{r:MV}(e:cl1 d ms=some r):B ms=some r:=by
 unfold cl1 at e;split at e
 ·rename_i off a0;cases ho:sh off 0 with
  |true=>have:=AT ho;subst this;exact (h _).trans e
  |false=>rw [ho] at e;cases e
 ·cases e
abbrev cl2 (d:List MV->MV->Option MV):List MV->Option MV:=λms=>match ms with|[.cell (.func off a0),a1]=>(match sh off 0 with|true=>d a0 a1|false=>none)|_=>none
theorem Wv {d:List MV->MV->Option MV}{B:List MV->Option MV}(h: ∀a0 a1,B [.cell (.func 0 a0),a1]=d a0 a1){ms:List MV}{r:MV}(e:cl2 d ms=some r):B ms=some r:=by
 unfold cl2 at e;split at e
 ·rename_i off a0 a1;cases ho:sh off 0 with
  |true=>have:=AT ho;subst this;exact (h _ _).trans e
  |false=>rw [ho] at e;cases e
 ·cases e
abbrev cl3 (d:List MV->MV->MV->Option MV):List MV->Option MV:=λms=>match ms with|[.cell (.func off a0),a1,a2]=>(match sh off 0 with|true=>d a0 a1 a2|false=>none)|_=>none
theorem adz {d:List MV->MV->MV->Option MV}{B:List MV->Option MV}(h: ∀a0 a1 a2,B [.cell (.func 0 a0),a1,a2]=d a0 a1 a2){ms:List MV}{r:MV}(e:cl3 d ms=some r):B ms=some r:=by
 unfold cl3 at e;split at e
 ·rename_i off a0 a1 a2;cases ho:sh off 0 with
  |true=>have:=AT ho;subst this;exact (h _ _ _).trans e
  |false=>rw [ho] at e;cases e
 ·cases e
abbrev cl4 (d:List MV->MV->MV->MV->Option MV):List MV->Option MV:=λms=>match ms with|[.cell (.func off a0),a1,a2,a3]=>(match sh off 0 with|true=>d a0 a1 a2 a3|false=>none)|_=>none
theorem adA {d:List MV->MV->MV->MV->Option MV}{B:List MV->Option MV}(h: ∀a0 a1 a2 a3,B [.cell (.func 0 a0),a1,a2,a3]=d a0 a1 a2 a3){ms:List MV}{r:MV}(e:cl4 d ms=some r):B ms=some r:=by
 unfold cl4 at e;split at e
 ·rename_i off a0 a1 a2 a3;cases ho:sh off 0 with
  |true=>have:=AT ho;subst this;exact (h _ _ _ _).trans e
  |false=>rw [ho] at e;cases e
 ·cases e
def Cc (a a1:MV):Option MV:=gA a λcs=>
 gC cs λm qC=>
 gI .i64 m λSF=>
 gC qC λm1 lY=>
 gI .i64 m1 λST=>
 gC lY λm2 jW=>
 gL m2 λfW=>
 gC jW λm3 rI=>
 gL m3 λWant=>
 gN rI<|
 gL a1 λez=>
 bd (
 aR (decide ((2:Int)<SF)) (
 some [.b true]) (
 bB fW λlen=>
 aR (decide ((30:Int)<(len:Int))) (
 some [.b true]) (
 bB Want λdk=>
 aR (decide ((30:Int)<(dk:Int))) (
 some [.b true]) (
 bB ez λgj=>
 some [.b (decide ((80:Int)<(gj:Int)))])))) λvs=>
 gC vs λm4 qD=>
 gB m4 λx=>
 gN qD<|
 aR x (
 some (.b false)) (
 bd (Loop (λEc=>
 gC Ec λm5 Hl=>
 gI .i64 m5 λx1=>
 gN Hl<|
 bB Want λrb=>
 aR (decide (x1<(rb:Int))) (
 idx Want x1 λy=>
 gS y λx2=>
 aR (decide ((200:Int)<(x2.length:Int))) (
 some (.inr (1,[.b false]))) (
 some (.inl [.i .i64 (fj .i64 (x1+1))]))) (
 some (.inr (2,[])))) [.i .i64 0]) λp=>
 aR (sh p.1 2) (
 gN p.2<|
 bd (Loop (λrJ=>
 gC rJ λm6 rK=>
 gI .i64 m6 λx3=>
 gN rK<|
 bB ez λzv=>
 aR (decide (x3<(zv:Int))) (
 idx ez x3 λy1=>
 gA y1 λdu=>
 nX du λKind I J Pb Pc Pd zw Fq Cd uq pc Ed ZX Pe Pf Hm zx zy=>
 bd (
 aR (decide ((200:Int)<(zw.length:Int))) (
 some [.b true]) (
 aR (decide ((200:Int)<(pc.length:Int))) (
 some [.b true]) (
 bB Ed λxw=>
 aR (decide ((30:Int)<(xw:Int))) (
 some [.b true]) (
 bB Fq λNv=>
 aR (decide ((30:Int)<(Nv:Int))) (
 some [.b true]) (
 aR (decide ((200:Int)<(zx.length:Int))) (
 some [.b true]) (
 bB zy λawj=>
 some [.b (decide ((30:Int)<(awj:Int)))])))))) λfO=>
 gC fO λm25 Fs=>
 gB m25 λx4=>
 gN Fs<|
 aR x4 (
 some (.inr (1,[.b false]))) (
 bd (Loop (λFt=>
 gC Ft λTu Fu=>
 gI .i64 Tu λx5=>
 gN Fu<|
 bB Fq λTz=>
 aR (decide (x5<(Tz:Int))) (
 idx Fq x5 λy2=>
 gA y2 λiM=>
 cL iM λBy fP Has View Value Proof=>
 bB Proof λawk=>
 aR (decide ((30:Int)<(awk:Int))) (
 some (.inr (1,[.b false]))) (
 some (.inl [.i .i64 (fj .i64 (x5+1))]))) (
 some (.inr (6,[])))) [.i .i64 0]) λp4=>
 aR (sh p4.1 6) (
 gN p4.2<|
 some (.inl [.i .i64 (fj .i64 (x3+1))])) (
 b5 (sh p4.1 1)<|
 gC p4.2 λm33 K8=>
 gB m33 λx6=>
 gN K8<|
 some (.inr (1,[.b x6]))))) (
 some (.inr (4,[])))) [.i .i64 0]) λp3=>
 aR (sh p3.1 4) (
 gN p3.2<|
 some (.b true)) (
 b5 (sh p3.1 1)<|
 gC p3.2 λm34 K9=>
 gB m34 λx7=>
 gN K9<|
 some (.b x7))) (
 b5 (sh p.1 1)<|
 gC p.2 λm35 adB=>
 gB m35 λx8=>
 gN adB<|
 some (.b x8)))
def Pg:GT:=bt 8 (eO Cc) apo
theorem Nw:SG Pg:=ln ZW [] 107 [(12,⟨[1,6,7],[],[],[(0,[(91,.sc (.k .b))])],[]⟩),(1,⟨[1,2],[],[],[(0,[(29,.sc (.k .b))])],[]⟩)] [] [(15,⟨[1,6,7],[],[(8,.sc (.k (.i .i64)))],[(1,[(4,.sc (.k .b))]),(6,[])],[]⟩),(9,⟨[1],[],[(6,.sc (.k (.i .i64)))],[(1,[(4,.sc (.k .b))]),(4,[])],[]⟩),(4,⟨[1,2],[],[(5,.sc (.k (.i .i64)))],[(1,[(4,.sc (.k .b))]),(2,[])],[]⟩)] Tryz.func8 (by kernel_rfl) (bG (λ_ _=>by kernel_rfl))
def sa (sA:MV):Option MV:=gA sA λcs=>
 oT cs λF T=>
 some (.raw (.complex .f64 (aay .f64 F) (aay .f64 T)))
def Dl:GT:=bt 139 (iT sa) Pg
theorem Fv:SG Dl:=ln Nw [] 10 [] [] [] Tryz.func139 (by kernel_rfl) (ct (λ_=>by kernel_rfl))
def jI (sA times:MV):Option MV:=gA sA λcs=>
 oT cs λF T=>
 gR times λadC=>
 bd (sa (.agg [.i .i64 F,.i .i64 T])) λrA=>
 gR rA λx=>
 gCx x λre im=>
 gCx adC λre1 im1=>
 bd (FloatKind.f64.format.mul re re1) λf=>
 gCx x λre2 im2=>
 gCx adC λre3 im3=>
 bd (FloatKind.f64.format.mul im2 im3) λf1=>
 bd (FloatKind.f64.format.add f f1) λf2=>
 bd ((FloatKind.decode .f64 f2).toInt .zero) λn=>
 b5 (decide (IntKind.min .i64<=n/\n<=IntKind.max .i64))<|
 some (.i .i64 (fj .i64 (n+1)))
def Ik:GT:=bt 71 (eO jI) Dl
theorem I8:SG Ik:=ln Fv [] 21 [] [] [] Tryz.func71 (by kernel_rfl) (bG (λ_ _=>by kernel_rfl))
def th (sA:MV):Option MV:=gA sA λcs=>
 oT cs λF T=>
 bd (jI (.agg [.i .i64 F,.i .i64 T]) (.raw (.complex .f64 4613937818241073152 4611686018427387904))) λrA=>
 gI .i64 rA λx=>
 some (.i .i64 x)
def adD:GT:=bt 27 (iT th) Ik
theorem Ww:SG adD:=ln I8 [] 5 [] [] [] Tryz.func27 (by kernel_rfl) (ct (λ_=>by kernel_rfl))
def lj (sA:MV):Option MV:=gA sA λcs=>
 oT cs λF T=>
 bd (
 aR (decide ((1:Int)<=F)) (
 aR (decide (F<=5)) (
 aR (decide ((0:Int)<=T)) (
 some [.b (decide (T<=F))]) (
 some [.b false])) (
 some [.b false])) (
 some [.b false])) λvs=>
 gC vs λm2 jW=>
 gB m2 λx=>
 gN jW<|
 some (.b x)
def La:GT:=bt 68 (iT lj) adD
theorem Lb:SG La:=ln Ww [] 23 [(1,⟨[1],[],[],[(0,[(2,.sc (.k .b))])],[]⟩)] [] [] Tryz.func68 (by kernel_rfl) (ct (λ_=>by kernel_rfl))
def qE (sA me:MV):Option MV:=gA sA λcs=>
 oT cs λF T=>
 gI .i64 me λWx=>
 bd (
 bd (lj (.agg [.i .i64 F,.i .i64 T])) λrA=>
 gB rA λx=>
 aR (!x) (
 some [.b true]) (
 aR (decide (Wx<0)) (
 some [.b true]) (
 bd (th (.agg [.i .i64 F,.i .i64 T])) λaY=>
 gI .i64 aY λx1=>
 some [.b (decide (x1<=Wx))]))) λvs=>
 gC vs λm2 jW=>
 gB m2 λx2=>
 gN jW<|
 aR x2 (
 some (.cM [.agg (br 0 0 0 0 false 0 ([]:List UInt8) ([]:List MV) ([]:List MV)),.i .i64 1])) (
 some (.cM [.agg (br F T Wx 0 false 0 ([]:List UInt8) ([]:List MV) ([]:List MV)),.i .i64 0]))
def Fw:GT:=bt 35 (eO qE) La
theorem Hn:SG Fw:=ln Lb [] 23 [(1,⟨[1,2,4],[],[],[(0,[(18,.sc (.k .b))])],[]⟩)] [] [] Tryz.func35 (by kernel_rfl) (bG (λ_ _=>by kernel_rfl))
def sU (sA:MV):Option MV:=gA sA λcs=>
 oT cs λF T=>
 bd (lj (.agg [.i .i64 F,.i .i64 T])) λrA=>
 gB rA λx=>
 aR (!x) (
 some (.cM [.agg (bJ 0 0 ([]:List MV) ([]:List MV) ([]:List MV) false ([]:List UInt8)),.i .i64 1])) (
 some (.cM [.agg (bJ F T ([]:List MV) ([]:List MV) ([]:List MV) false ([]:List UInt8)),.i .i64 0]))
def Il:GT:=bt 36 (iT sU) Fw
theorem I9:SG Il:=ln Hn [] 10 [] [] [] Tryz.func36 (by kernel_rfl) (ct (λ_=>by kernel_rfl))
def ve (sA i:MV):Option MV:=gA sA λcs=>
 oT cs λF T=>
 gI .i64 i λi1=>
 bd (qE (.agg [.i .i64 F,.i .i64 T]) (.i .i64 i1)) λrA=>
 gT rA λvs=>
 gC vs λm2 jW=>
 gA m2 λdu=>
 cJ du λSF ST Me View Has At Value Proof cQ=>
 gC jW λvW gq=>
 gI .i64 vW λx=>
 gN gq<|
 aR (!decide (x=0)) (
 some (.cM [.agg (al 0 0 0 0 false 0 ([]:List UInt8) ([]:List MV) ([]:List MV) 0 0 ([]:List MV) ([]:List MV) ([]:List MV) false ([]:List UInt8) ([]:List MV) 0),.i .i64 x])) (
 bd (sU (.agg [.i .i64 F,.i .i64 T])) λaY=>
 gT aY λfO=>
 gC fO λCL jJ=>
 gA CL λiM=>
 di iM λs8 s9 cw cn fS bE bc=>
 gC jJ λm21 vf=>
 gI .i64 m21 λx1=>
 gN vf<|
 some (.cM [.agg (al SF ST Me View Has At Value Proof cQ s8 s9 cw cn fS bE bc ([]:List MV) (-1)),.i .i64 x1]))
def Lc:GT:=bt 10 (eO ve) Il
theorem Ld:SG Lc:=ln I9 [] 28 [] [] [] Tryz.func10 (by kernel_rfl) (bG (λ_ _=>by kernel_rfl))
def Fx (a a1 a2:MV):Option MV:=gA a λcs=>
 oT cs λF T=>
 gL a1 λez=>
 gL a2 λLe=>
 bd (
 bd (lj (.agg [.i .i64 F,.i .i64 T])) λrA=>
 gB rA λx=>
 aR (!x) (
 some [.b true]) (
 bB ez λlen=>
 bd (th (.agg [.i .i64 F,.i .i64 T])) λaY=>
 gI .i64 aY λx1=>
 aR (!decide ((len:Int)=x1)) (
 some [.b true]) (
 bB Le λdk=>
 bB ez λgj=>
 some [.b (!decide ((dk:Int)=(gj:Int)))]))) λvs=>
 gC vs λm2 jW=>
 gB m2 λx2=>
 gN jW<|
 aR x2 (
 some (.cM [.agg (bx 0 0 ([]:List MV) ([]:List MV) ([]:List MV) ([]:List MV)),.i .i64 1])) (
 bd (jT 1 1 [.list ez]) λbH=>
 gF bH λxs=>
 bd (jT 1 16 [.list Le]) λcr=>
 gF cr λAG=>
 bB ez λrb=>
 bd (Loop (λrI=>
 gC rI λm3 qD=>
 gI .i64 m3 λx3=>
 gC qD λm4 Ec=>
 gI .i64 m4 λx4=>
 gC Ec λm5 Hl=>
 gL m5 λx5=>
 gC Hl λm6 rJ=>
 gL m6 λx6=>
 gC rJ λm7 rK=>
 gL m7 λx7=>
 gC rK λm8 mX=>
 gL m8 λx8=>
 gC mX λm9 mY=>
 gI .i64 m9 λx9=>
 gC mY λEa vg=>
 gI .i64 Ea λll=>
 gC vg λFm gq=>
 gL Fm λHo=>
 gC gq λvW jJ=>
 gL vW λJG=>
 gC jJ λCL ox=>
 gL CL λRc=>
 gC ox λBj lD=>
 gL Bj λlm=>
 oT lD λmB lN=>
 aR (decide (lN<(rb:Int))) (
 idx ez lN λy=>
 gB y λnB=>
 bd (
 aR nB (
 some (0,[.i .i64 (fj .i64 (mB-1))])) (
 some (0,[.i .i64 mB]))) λp1=>
 b5 (sh p1.1 0)<|
 gC p1.2 λBk jK=>
 gI .i64 Bk λpQ=>
 gN jK<|
 bd (
 idx Le lN λy1=>
 gS y1 λrh=>
 aR (decide ((6000:Int)<(rh.length:Int))) (
 some [.b true]) (
 some [.b (decide (pQ<0))])) λfO=>
 gC fO λHi mZ=>
 gB Hi λpa=>
 gN mZ<|
 aR pa (
 some (.inr (1,[.i .i64 0,.i .i64 0,.list ([]:List MV),.list ([]:List MV),.list ([]:List MV),.list ([]:List MV),.i .i64 1]))) (
 bd (ve (.agg [.i .i64 F,.i .i64 T]) (.i .i64 lN)) λeU=>
 gT eU λpP=>
 gC pP λNt kE=>
 gA Nt λdu=>
 aF du λpR pS pT cq fN pU cc cf bK pV pW bg bh cg db ch cy fh=>
 gC kE λm38 Fy=>
 gI .i64 m38 λyT=>
 gN Fy<|
 bB Rc λzv=>
 bB ([.agg (al pR pS pT cq fN pU cc cf bK pV pW bg bh cg db ch cy fh)]:List MV) λxw=>
 b5 (decide ((zv+xw) *256<=2^46))<|
 some (.inl [.i .i64 x3,.i .i64 x4,.list x5,.list x6,.list x7,.list x8,.i .i64 x9,.i .i64 ll,.list Ho,.list JG,.list (Rc++([.agg (al pR pS pT cq fN pU cc cf bK pV pW bg bh cg db ch cy fh)]:List MV)),.list lm,.i .i64 pQ,.i .i64 (fj .i64 (lN+1))]))) (
 some (.inr (2,[.i .i64 x3,.i .i64 x4,.list x5,.list x6,.list x7,.list x8,.i .i64 x9,.i .i64 ll,.list Ho,.list JG,.list Rc,.list lm])))) [.i .i64 0,.i .i64 0,.list ([]:List MV),.list ([]:List MV),.list ([]:List MV),.list ([]:List MV),.i .i64 F,.i .i64 T,.list xs,.list AG,.list ([]:List MV),.list ([]:List MV),.i .i64 F,.i .i64 0]) λp=>
 aR (sh p.1 2) (
 gC p.2 λm39 apt=>
 gI .i64 m39 λEb=>
 gC apt λm40 apv=>
 gI .i64 m40 λGS=>
 gC apv λm41 apw=>
 gL m41 λHj=>
 gC apw λm42 Lf=>
 gL m42 λFo=>
 gC Lf λm43 apA=>
 gL m43 λI4=>
 gC apA λm44 Lg=>
 gL m44 λJy=>
 dW Lg λI5 I6 ZY xs6 xs7 I7=>
 some (.cM [.agg (bx I5 I6 ZY xs6 xs7 I7),.i .i64 0])) (
 b5 (sh p.1 1)<|
 gC p.2 λm51 apC=>
 gI .i64 m51 λJz=>
 gC apC λm52 apD=>
 gI .i64 m52 λJA=>
 gC apD λm53 adE=>
 gL m53 λJB=>
 gC adE λm54 adF=>
 gL m54 λJC=>
 gC adF λm55 apE=>
 gL m55 λJD=>
 Dk apE λJE Nu=>
 some (.cM [.agg (bx Jz JA JB JC JD JE),.i .i64 Nu])))
def TA:GT:=bt 26 (uU Fx) Lc
theorem Re:SG TA:=pX Ld [] [] 75 [70] [] [] [(3,[0,1,3,2,4,5,6,7])] [(10,⟨[1,2,3,6,8,9,10,40,41],[33,35,71],[],[(0,[(59,.sc (.k .b))])],[33,35,71]⟩),(1,⟨[1,2,3,6],[],[],[(0,[(29,.sc (.k .b))])],[33,35,71]⟩)] [(9,⟨[1,2,3,6,8,10,40,41],[33,35,71],[],[(0,[(9,.sc (.k (.i .i64)))])],[33,35,71]⟩)] [(6,⟨[1,2,3,40],[],[(6,.box [.k (.i .i64),.k (.i .i64),.k .l,.k .l,.k .l,.k .l]),(8,.box [.k (.i .i64),.k (.i .i64),.own 33 4 true,.own 35 9 true,.own 71 40 true,.k .l]),(9,.sc (.k (.i .i64))),(41,.sc (.k (.i .i64)))],[(1,[(6,.box [.k (.i .i64),.k (.i .i64),.k .l,.k .l,.k .l,.k .l]),(7,.sc (.k (.i .i64)))]),(2,[(6,.box [.k (.i .i64),.k (.i .i64),.k .l,.k .l,.k .l,.k .l]),(8,.box [.k (.i .i64),.k (.i .i64),.own 33 4 true,.own 35 9 true,.own 71 40 true,.k .l])])],[33,35,71]⟩)] [] Tryz.func26 (by kernel_rfl) (gQ (λ_ _ _=>by kernel_rfl))
def vh (b:MV):Option MV:=gL b λb1=>
 bB b1 λlen=>
 aR (decide ((len:Int)=0)) (
 some (.cM [.i .u64 0,.list ([]:List MV),.i .i64 2])) (
 idx b1 0 λy=>
 gI .u8 y λx=>
 b5 (oa 1 b1)<|
 bB b1 λdk=>
 b5 (decide ((0:Int)<=1/\(1:Int)<=(dk:Int)/\(dk:Int)<=(dk:Int)))<|
 bd (
 aR (decide ((8:Int)<(fj .i64 x))) (
 some [.b true]) (
 aR (decide ((0:Int)<(fj .i64 x))) (
 bB (BY (AI 1) (IN (AI (dk:Int)) b1)) λgj=>
 aR (decide ((0:Int)<(gj:Int))) (
 idx (BY (AI 1) (IN (AI (dk:Int)) b1)) 0 λy1=>
 gI .u8 y1 λx1=>
 some [.b (decide (x1=0))]) (
 some [.b false])) (
 some [.b false]))) λvs=>
 gC vs λm qC=>
 gB m λx2=>
 gN qC<|
 aR x2 (
 some (.cM [.i .u64 0,.list ([]:List MV),.i .i64 3])) (
 bB (BY (AI 1) (IN (AI (dk:Int)) b1)) λrb=>
 aR (decide ((rb:Int)<(fj .i64 x))) (
 some (.cM [.i .u64 0,.list ([]:List MV),.i .i64 2])) (
 bB (BY (AI 1) (IN (AI (dk:Int)) b1)) λzv=>
 b5 (decide ((0:Int)<=0/\(0:Int)<=(fj .i64 x)/\(fj .i64 x)<=(zv:Int)))<|
 bB (BY (AI 0) (IN (AI (fj .i64 x)) (BY (AI 1) (IN (AI (dk:Int)) b1)))) λxw=>
 bd (Loop (λlY=>
 oII .u64 .i64 lY λn x3=>
 aR (decide (x3<(xw:Int))) (
 idx (BY (AI 0) (IN (AI (fj .i64 x)) (BY (AI 1) (IN (AI (dk:Int)) b1)))) x3 λy2=>
 gI .u8 y2 λx4=>
 b5 (decide ((0:Int)<=8))<|
 some (.inl [.i .u64 (bOr .u64 (fj .u64 (n *2^min (AI 8) (IS .u64))) (fj .u64 x4)),.i .i64 (fj .i64 (x3+1))])) (
 some (.inr (3,[.i .u64 n])))) [.i .u64 0,.i .i64 0]) λp=>
 b5 (sh p.1 3)<|
 gC p.2 λm3 qD=>
 gI .u64 m3 λn1=>
 gN qD<|
 b5 (oa 1 (BY (AI 1) (IN (AI (dk:Int)) b1)))<|
 bB (BY (AI 1) (IN (AI (dk:Int)) b1)) λNv=>
 b5 (decide ((0:Int)<=(fj .i64 x)/\(fj .i64 x)<=(Nv:Int)/\(Nv:Int)<=(Nv:Int)))<|
 some (.cM [.i .u64 n1,.list (BY (AI (fj .i64 x)) (IN (AI (Nv:Int)) (BY (AI 1) (IN (AI (dk:Int)) b1)))),.i .i64 0]))))
def Lh:GT:=bt 185 (iT vh) TA
theorem Li:SG Lh:=pX Re [] [] 60 [] [] [] [(3,[0,1,2,3,4,5,6,7]),(14,[0,1,2,3,4,5,6])] [(4,⟨[5,6],[],[],[(0,[(19,.sc (.k .b))])],[]⟩)] [] [(10,⟨[5,6,44,45],[],[(7,.sc (.k (.i .u64))),(46,.sc (.k (.i .i64)))],[(3,[(7,.sc (.k (.i .u64)))])],[]⟩)] [] Tryz.func185 (by kernel_rfl) (ct (λ_=>by kernel_rfl))
def sb (b:MV):Option MV:=gL b λb1=>
 bd (vh (.list b1)) λrA=>
 gT rA λvs=>
 Wt .u64 .i64 vs λx x1 x2=>
 b5 (decide ((0:Int)<=1))<|
 some (.cM [.i .i64 (GW .i64 (fj .i64 (OF x (2^min (AI 1) (IS .u64)))) (fj .i64 (0-(fj .i64 (Vq .u64 x 1))))),.list x1,.i .i64 x2])
def Dm:GT:=bt 168 (iT sb) Lh
theorem Fz:SG Dm:=ln Li [] 24 [] [] [] Tryz.func168 (by kernel_rfl) (ct (λ_=>by kernel_rfl))
def dR (t:List MV):Option MV:=Dk t λb eA=>
 bd (
 aR (decide (eA=0)) (
 bd (sb (.list b)) λrA=>
 gT rA λvs=>
 akI vs λx x1 x2=>
 some (0,[.i .i64 x,.list x1,.i .i64 x2])) (
 some (0,[.i .i64 0,.list b,.i .i64 eA]))) λp=>
 b5 (sh p.1 0)<|
 Wt .i64 .i64 p.2 λn x3 x4=>
 some (.gm (.i .i64 n) [.list x3,.i .i64 x4])
def vi:GT:=bt 126 (cl1 dR) Dm
theorem zB:SG vi:=fnC Fz 0 Pa [] [(0,1000000)] 24 [] [] [] [] [] [(2,⟨[0],[],[],[(0,[(2,.sc (.k (.i .i64))),(1000000,.box [.k .l,.k (.i .i64)])])],[]⟩)] [] [] Tryz.func126 (by kernel_rfl) (by kernel_rfl) (Wu λ_=>by kernel_rfl)
def qF (b most:MV):Option MV:=gL b λb1=>
 gI .i64 most λadG=>
 bd (vh (.list b1)) λrA=>
 gT rA λvs=>
 Wt .u64 .i64 vs λx x1 x2=>
 aR (!decide (x2=0)) (
 some (.cM [.s ([]:List UInt8),.list ([]:List MV),.i .i64 x2])) (
 aR (decide ((fj .u64 (imax adG 0))<x)) (
 some (.cM [.s ([]:List UInt8),.list ([]:List MV),.i .i64 5])) (
 bB x1 λlen=>
 aR (decide ((fj .u64 (len:Int))<x)) (
 some (.cM [.s ([]:List UInt8),.list ([]:List MV),.i .i64 2])) (
 bB x1 λdk=>
 b5 (decide ((0:Int)<=0/\(0:Int)<=x/\x<=(dk:Int)))<|
 Na (BY (AI 0) (IN (AI x) x1)) λbs=>
 b5 (oa 1 x1)<|
 bB x1 λgj=>
 b5 (decide ((0:Int)<=x/\x<=(gj:Int)/\(gj:Int)<=(gj:Int)))<|
 some (.cM [.s bs,.list (BY (AI x) (IN (AI (gj:Int)) x1)),.i .i64 0]))))
def Bl:GT:=bt 169 (eO qF) vi
theorem Ee:SG Bl:=pX zB [] [] 39 [] [] [] [(8,[0,1,2,3,4,5,6,7,8,9])] [] [] [] [] Tryz.func169 (by kernel_rfl) (bG (λ_ _=>by kernel_rfl))
def iC (t:List MV):Option MV:=Dk t λb eA=>
 bd (
 aR (decide (eA=0)) (
 bd (qF (.list b) (.i .i64 6000)) λrA=>
 gT rA λvs=>
 gC vs λm2 jW=>
 gS m2 λx=>
 Dk jW λx1 x2=>
 some (0,[.s x,.list x1,.i .i64 x2])) (
 some (0,[.s ([]:List UInt8),.list b,.i .i64 eA]))) λp=>
 b5 (sh p.1 0)<|
 gC p.2 λm5 Ec=>
 gS m5 λsA=>
 Dk Ec λx3 x4=>
 some (.gm (.s sA) [.list x3,.i .i64 x4])
def tA:GT:=bt 127 (cl1 iC) Bl
theorem yv:SG tA:=fnC Ee 0 Pa [] [(0,1000000)] 24 [] [] [] [] [] [(2,⟨[0],[],[],[(0,[(2,.sc (.k .s)),(1000000,.box [.k .l,.k (.i .i64)])])],[]⟩)] [] [] Tryz.func127 (by kernel_rfl) (by kernel_rfl) (Wu λ_=>by kernel_rfl)
def jL (t:List MV):Option MV:=Dk t λb eA=>
 bd (dR [.list b,.i .i64 eA]) λrA=>
 gW rA λx ls=>
 Dk ls λb1 eA1=>
 gI .i64 x λx1=>
 bd (
 aR (decide (x1<0)) (
 some [.b true]) (
 some [.b (decide ((100:Int)<x1))])) λvs=>
 gC vs λm4 qD=>
 gB m4 λx2=>
 gN qD<|
 bd (
 aR x2 (
 some (0,[.list b1,.i .i64 3])) (
 some (0,[.list b1,.i .i64 eA1]))) λp=>
 b5 (sh p.1 0)<|
 oLI .i64 p.2 λx3 x4=>
 bd (
 aR (!decide (x4=0)) (
 some [.b true]) (
 some [.b (decide (x1=0))])) λfO=>
 gC fO λm7 rJ=>
 gB m7 λx5=>
 gN rJ<|
 aR x5 (
 some (.gm (.list ([]:List MV)) [.list x3,.i .i64 x4])) (
 b5 (decide ((0:Int)<=x1/\x1=x1/\x1 *32<=2^46))<|
 bB (aav (AI x1) (.agg [.i .i64 0,.i .i64 0,.s ([]:List UInt8)])) λlen=>
 bd (Loop (λrK=>
 gC rK λm8 mX=>
 gL m8 λp2=>
 akI mX λx6 x7 x8=>
 aR (decide (x6<(len:Int))) (
 bd (dR [.list x7,.i .i64 x8]) λaY=>
 gW aY λx9 ls1=>
 Dk ls1 λb2 eA2=>
 gI .i64 x9 λll=>
 idx p2 x6 λy=>
 gA y λcs=>
 eJ cs λBy View Value=>
 some (.inl [.list (p2.set (AI x6) (.agg [.i .i64 ll,.i .i64 View,.s Value])),.i .i64 (fj .i64 (x6+1)),.list b2,.i .i64 eA2])) (
 some (.inr (2,[.list p2,.list x7,.i .i64 x8])))) [.list (aav (AI x1) (.agg [.i .i64 0,.i .i64 0,.s ([]:List UInt8)])),.i .i64 0,.list x3,.i .i64 x4]) λp1=>
 b5 (sh p1.1 2)<|
 gC p1.2 λBk jK=>
 gL Bk λp3=>
 Dk jK λlm mB=>
 bd (dR [.list lm,.i .i64 mB]) λbH=>
 gW bH λlN ls2=>
 Dk ls2 λb3 eA3=>
 gI .i64 lN λnB=>
 bd (iC [.list b3,.i .i64 eA3]) λcr=>
 gW cr λpQ ls3=>
 Dk ls3 λb4 eA4=>
 gS pQ λrh=>
 bB p3 λdk=>
 bd (Loop (λTB=>
 Dk TB λp5 pa=>
 aR (decide (pa<(dk:Int))) (
 idx p5 pa λy1=>
 gA y1 λdu=>
 eJ du λvj b7 bc=>
 idx (p5.set (AI pa) (.agg [.i .i64 vj,.i .i64 nB,.s bc])) pa λy2=>
 gA y2 λiM=>
 eJ iM λSh j7 dG=>
 some (.inl [.list ((p5.set (AI pa) (.agg [.i .i64 vj,.i .i64 nB,.s bc])).set (AI pa) (.agg [.i .i64 Sh,.i .i64 j7,.s rh])),.i .i64 (fj .i64 (pa+1))])) (
 some (.inr (4,[.list p5])))) [.list p3,.i .i64 0]) λp4=>
 b5 (sh p4.1 4)<|
 gC p4.2 λm32 TD=>
 gL m32 λp6=>
 gN TD<|
 some (.gm (.list p6) [.list b4,.i .i64 eA4]))
def sV:GT:=bt 128 (cl1 jL) tA
theorem xx:SG sV:=fnC yv 0 Pa [] [(0,1000000)] 64 [] [] [] [] [(4,⟨[0,3,1000000],[],[],[(0,[(28,.sc (.k .b))])],[]⟩),(2,⟨[0,3,1000000],[],[],[(0,[(16,.sc (.k .b))])],[]⟩)] [(3,⟨[0,3],[],[],[(0,[(1000000,.box [.k .l,.k (.i .i64)])])],[]⟩)] [(14,⟨[6,7,48,1000000],[],[(4,.sc (.own 30 58 false)),(49,.sc (.k (.i .i64)))],[(4,[(4,.sc (.own 30 58 false))])],[]⟩),(8,⟨[0,32],[],[(4,.sc (.own 30 58 false)),(33,.sc (.k (.i .i64))),(1000000,.box [.k .l,.k (.i .i64)])],[(2,[(4,.sc (.own 30 58 false)),(1000000,.box [.k .l,.k (.i .i64)])])],[]⟩)] [] Tryz.func128 (by kernel_rfl) (by kernel_rfl) (Wu λ_=>by kernel_rfl)
def oz (isA:MV):Option MV:=gB isA λawv=>
 aR awv (
 some (.i .i64 1)) (
 some (.i .i64 0))
def Dp:GT:=bt 129 (iT oz) sV
theorem FA:SG Dp:=ln xx [] 4 [] [] [] Tryz.func129 (by kernel_rfl) (ct (λ_=>by kernel_rfl))
def pe (sA:MV):Option MV:=gA sA λcs=>
 oT cs λF T=>
 bd (jI (.agg [.i .i64 F,.i .i64 T]) (.raw (.complex .f64 4611686018427387904 4607182418800017408))) λrA=>
 gI .i64 rA λx=>
 some (.i .i64 x)
def Lj:GT:=bt 103 (iT pe) Dp
theorem Lk:SG Lj:=ln FA [] 5 [] [] [] Tryz.func103 (by kernel_rfl) (ct (λ_=>by kernel_rfl))
def nC (a:MV):Option MV:=gA a λcs=>
 eJ cs λBy View Value=>
 bd (
 aR (decide ((0:Int)<=By)) (
 aR (decide ((0:Int)<=View)) (
 aR (decide (View<=100000)) (
 some [.b (decide ((Value.length:Int)<=6000))]) (
 some [.b false])) (
 some [.b false])) (
 some [.b false])) λvs=>
 gC vs λm3 rI=>
 gB m3 λx=>
 gN rI<|
 some (.b x)
def Pj:GT:=bt 100 (iT nC) Lj
theorem Ny:SG Pj:=ln Lk [] 22 [(1,⟨[1],[],[],[(0,[(2,.sc (.k .b))])],[]⟩)] [] [] Tryz.func100 (by kernel_rfl) (ct (λ_=>by kernel_rfl))
def wN (t:MV):Option MV:=gA t λcs=>
 gC cs λm qC=>
 gL m λL=>
 gN qC<|
 bB L λlen=>
 bd (Loop (λlY=>
 gC lY λm1 jW=>
 gI .i64 m1 λx=>
 gN jW<|
 aR (decide (x<(len:Int))) (
 idx L x λy=>
 gA y λdu=>
 eJ du λBy View Value=>
 bd (
 bd (nC (.agg [.i .i64 By,.i .i64 View,.s Value])) λrA=>
 gB rA λx1=>
 aR (!x1) (
 some [.b true]) (
 aR (decide ((0:Int)<x)) (
 idx L (fj .i64 (x-1)) λy1=>
 gA y1 λiM=>
 eJ iM λvj b7 bc=>
 some [.b (decide (By<=vj))]) (
 some [.b false]))) λvs=>
 gC vs λm8 mX=>
 gB m8 λx2=>
 gN mX<|
 aR x2 (
 some (.inr (1,[.b false]))) (
 some (.inl [.i .i64 (fj .i64 (x+1))]))) (
 some (.inr (2,[])))) [.i .i64 0]) λp=>
 aR (sh p.1 2) (
 gN p.2<|
 some (.b true)) (
 b5 (sh p.1 1)<|
 gC p.2 λm9 mY=>
 gB m9 λx3=>
 gN mY<|
 some (.b x3))
def Im:GT:=bt 160 (iT wN) Pj
theorem Ja:SG Im:=pX Ny [] [] 33 [] [] [] [(4,[0,1,2,3,4,5,6,7,8,9,10,11,12,13,14,15,16,17,18])] [(4,⟨[1,3,4,6,7,8],[],[],[(0,[(31,.sc (.k .b))])],[]⟩)] [] [(2,⟨[1,6,7],[],[(8,.sc (.k (.i .i64)))],[(1,[(2,.sc (.k .b))]),(2,[])],[]⟩)] [] Tryz.func160 (by kernel_rfl) (ct (λ_=>by kernel_rfl))
def qG (t view value:MV):Option MV:=gA t λcs=>
 gC cs λm qC=>
 gL m λL=>
 gN qC<|
 gI .i64 view λdZ=>
 gS value λfT=>
 bB L λlen=>
 bd (Loop (λlY=>
 Dk lY λout x=>
 aR (decide (x<(len:Int))) (
 idx L x λy=>
 gA y λdu=>
 eJ du λBy View Value=>
 bd (
 aR (decide (View=dZ)) (
 some [.b (decide (Value=fT))]) (
 some [.b false])) λvs=>
 gC vs λm6 rJ=>
 gB m6 λx1=>
 gN rJ<|
 bd (
 aR x1 (
 bB out λdk=>
 bB ([.agg [.i .i64 By,.i .i64 View,.s Value]]:List MV) λgj=>
 b5 (decide ((dk+gj) *32<=2^46))<|
 some (0,[.list (out++([.agg [.i .i64 By,.i .i64 View,.s Value]]:List MV))])) (
 some (0,[.list out]))) λp1=>
 b5 (sh p1.1 0)<|
 gC p1.2 λm7 rK=>
 gL m7 λLl=>
 gN rK<|
 some (.inl [.list Ll,.i .i64 (fj .i64 (x+1))])) (
 some (.inr (2,[.list out])))) [.list ([]:List MV),.i .i64 0]) λp=>
 b5 (sh p.1 2)<|
 gC p.2 λm8 mX=>
 gL m8 λakT=>
 gN mX<|
 some (.list akT)
def FB:GT:=bt 159 (uU qG) Im
theorem Hp:SG FB:=pX Ja [] [] 33 [29] [] [] [] [(5,⟨[1,2,7,9,11,12,13],[30],[],[(0,[(26,.sc (.k .b))])],[30]⟩)] [(6,⟨[1,2,9,11,12,13],[],[],[(0,[(7,.sc (.own 30 58 true))])],[30]⟩)] [(3,⟨[1,2,11,12],[],[(7,.sc (.own 30 58 true)),(13,.sc (.k (.i .i64)))],[(2,[(7,.sc (.own 30 58 true))])],[30]⟩)] [] Tryz.func159 (by kernel_rfl) (gQ (λ_ _ _=>by kernel_rfl))
def wO (t view value:MV):Option MV:=gA t λcs=>
 gC cs λm qC=>
 gL m λL=>
 gN qC<|
 gI .i64 view λdZ=>
 gS value λfT=>
 bd (qG (.agg [.list L]) (.i .i64 dZ) (.s fT)) λrA=>
 gL rA λx=>
 bB x λlen=>
 some (.i .i64 (len:Int))
def Io:GT:=bt 161 (uU wO) FB
theorem Jb:SG Io:=ln Hp [] 12 [] [] [] Tryz.func161 (by kernel_rfl) (gQ (λ_ _ _=>by kernel_rfl))
def pD (sA p:MV):Option MV:=gA sA λcs=>
 oT cs λF T=>
 gL p λp1=>
 bd (
 bd (lj (.agg [.i .i64 F,.i .i64 T])) λrA=>
 gB rA λx=>
 aR (!x) (
 some [.b true]) (
 bB p1 λlen=>
 bd (pe (.agg [.i .i64 F,.i .i64 T])) λaY=>
 gI .i64 aY λx1=>
 aR (!decide ((len:Int)=x1)) (
 some [.b true]) (
 bd (wN (.agg [.list p1])) λbH=>
 gB bH λx2=>
 some [.b (!x2)]))) λvs=>
 gC vs λm2 jW=>
 gB m2 λx3=>
 gN jW<|
 aR x3 (
 some (.b false)) (
 bd (
 bB p1 λdk=>
 idx p1 (fj .i64 ((dk:Int)-1)) λy=>
 gA y λdu=>
 eJ du λBy View Value=>
 bd (th (.agg [.i .i64 F,.i .i64 T])) λcr=>
 gI .i64 cr λx4=>
 aR (decide (By<x4)) (
 idx p1 0 λy1=>
 gA y1 λiM=>
 eJ iM λvj b7 bc=>
 idx p1 0 λy2=>
 gA y2 λnn=>
 eJ nn λSh j7 dG=>
 bB p1 λgj=>
 bd (wO (.agg [.list p1]) (.i .i64 b7) (.s dG)) λeU=>
 gI .i64 eU λx5=>
 some [.b (decide (x5=(gj:Int)))]) (
 some [.b false])) λfO=>
 gC fO λvW gq=>
 gB vW λx6=>
 gN gq<|
 some (.b x6))
def Ip:GT:=bt 102 (eO pD) Io
theorem Jc:SG Ip:=pX Jb [] [] 47 [] [] [] [(3,[0,1,2,3,4,5,6,7,8,9,10,11,12,13,14,15,16,17,18,19,20,22,23,21,24,25,26])] [(3,⟨[1,2],[],[],[(0,[(4,.sc (.k .b))])],[]⟩),(1,⟨[1,2],[],[],[(0,[(20,.sc (.k .b))])],[]⟩)] [] [] [] Tryz.func102 (by kernel_rfl) (bG (λ_ _=>by kernel_rfl))
def iH (a:MV):Option MV:=gA a λcs=>
 cJ cs λSF ST Me View Has At Value Proof cQ=>
 bd (
 aR (decide (View<0)) (
 some [.b true]) (
 some [.b (decide ((100000:Int)<View))])) λvs=>
 gC vs λm9 mX=>
 gB m9 λx=>
 gN mX<|
 aR x (
 some (.b false)) (
 bd (
 aR Has (
 aR (decide (At<0)) (
 some [.b true]) (
 aR (decide (View<At)) (
 some [.b true]) (
 some [.b (decide ((6000:Int)<(Value.length:Int)))]))) (
 some [.b false])) λfO=>
 gC fO λEa mY=>
 gB Ea λx1=>
 gN mY<|
 aR x1 (
 some (.b false)) (
 bd (
 aR (!Has) (
 aR (!decide (At=0)) (
 some [.b true]) (
 some [.b (!decide (Value=([]:List UInt8)))])) (
 some [.b false])) λpP=>
 gC pP λFm vg=>
 gB Fm λx2=>
 gN vg<|
 aR x2 (
 some (.b false)) (
 bd (
 bB Proof λlen=>
 aR (decide ((len:Int)=0)) (
 some [.b true]) (
 bd (pD (.agg [.i .i64 SF,.i .i64 ST]) (.list Proof)) λrA=>
 gB rA λx3=>
 aR x3 (
 idx Proof 0 λy=>
 gA y λdu=>
 eJ du λBy b7 bc=>
 some [.b (decide (b7<=View))]) (
 some [.b false]))) λRf=>
 gC Rf λCM lD=>
 gB CM λx4=>
 gN lD<|
 some (.b x4))))
def qH:GT:=bt 130 (iT iH) Ip
theorem vl:SG qH:=pX Jc [] [] 68 [] [] [] [(7,[0,1,2,3,4,5,6,7,8,9,10,11,12,13,14,15,16,17,18,19,20,21])] [(7,⟨[1],[],[],[(0,[(2,.sc (.k .b))])],[]⟩),(5,⟨[1],[],[],[(0,[(33,.sc (.k .b))])],[]⟩),(3,⟨[1],[],[],[(0,[(12,.sc (.k .b))])],[]⟩),(1,⟨[1],[],[],[(0,[(3,.sc (.k .b))])],[]⟩)] [] [] [] Tryz.func130 (by kernel_rfl) (ct (λ_=>by kernel_rfl))
def sd (a a1 a2:MV):Option MV:=gA a λcs=>
 oT cs λF T=>
 gI .i64 a1 λez=>
 gL a2 λLe=>
 bd (qE (.agg [.i .i64 F,.i .i64 T]) (.i .i64 ez)) λrA=>
 gT rA λvs=>
 gC vs λm2 jW=>
 gA m2 λdu=>
 cJ du λSF ST Me View Has At Value Proof cQ=>
 gC jW λvW gq=>
 gI .i64 vW λx=>
 gN gq<|
 aR (!decide (x=0)) (
 some (.cM [.agg (br 0 0 0 0 false 0 ([]:List UInt8) ([]:List MV) ([]:List MV)),.i .i64 x])) (
 bd (dR [.list Le,.i .i64 0]) λaY=>
 gW aY λx1 ls=>
 Dk ls λb eA=>
 gI .i64 x1 λx2=>
 bd (dR [.list b,.i .i64 eA]) λbH=>
 gW bH λx3 ls1=>
 Dk ls1 λb1 eA1=>
 gI .i64 x3 λx4=>
 bd (dR [.list b1,.i .i64 eA1]) λcr=>
 gW cr λx5 ls2=>
 Dk ls2 λb2 eA2=>
 gI .i64 x5 λx6=>
 bd (iC [.list b2,.i .i64 eA2]) λeU=>
 gW eU λx7 ls3=>
 Dk ls3 λb3 eA3=>
 gS x7 λx8=>
 bd (jL [.list b3,.i .i64 eA3]) λkP=>
 gW kP λx9 ls4=>
 Dk ls4 λb4 eA4=>
 gL x9 λll=>
 bd (
 aR (!decide (eA4=0)) (
 some [.b true]) (
 bd (oz (.b (decide (x4=1)))) λqm=>
 gI .i64 qm λlm=>
 aR (!decide (x4=lm)) (
 some [.b true]) (
 bB b4 λlen=>
 aR (decide ((0:Int)<(len:Int))) (
 some [.b true]) (
 bd (iH (.agg (br SF ST Me x2 (decide (x4=1)) x6 x8 ll cQ))) λA8=>
 gB A8 λmB=>
 some [.b (!mB)])))) λfO=>
 gC fO λm23 FC=>
 gB m23 λlN=>
 gN FC<|
 aR lN (
 some (.cM [.agg (br 0 0 0 0 false 0 ([]:List UInt8) ([]:List MV) ([]:List MV)),.i .i64 3])) (
 some (.cM [.agg (br SF ST Me x2 (decide (x4=1)) x6 x8 ll cQ),.i .i64 0])))
def Dq:GT:=bt 63 (uU sd) qH
theorem FD:SG Dq:=fnX vl [] [] 68 [] [] [] [] [(8,⟨[6,8,9,10,11,14],[],[],[(0,[(64,.sc (.k .b))])],[]⟩)] [] [] [] Tryz.func63 (by kernel_rfl) (gQ (λ_ _ _=>by kernel_rfl))
def vm (p:MV):Option MV:=gL p λp1=>
 bB p1 λlen=>
 aR (decide ((len:Int)=0)) (
 some (.cM [.i .i64 (-1),.s ([]:List UInt8),.b false])) (
 idx p1 0 λy=>
 gA y λcs=>
 eJ cs λBy View Value=>
 idx p1 0 λy1=>
 gA y1 λdu=>
 eJ du λvj b7 bc=>
 some (.cM [.i .i64 View,.s bc,.b true]))
def TE:GT:=bt 99 (iT vm) Dq
theorem Rg:SG TE:=pX FD [] [] 16 [] [] [] [(3,[0,1,2,3,4,5,6,7,8,9,10])] [] [] [] [] Tryz.func99 (by kernel_rfl) (ct (λ_=>by kernel_rfl))
def zC (x:MV):Option MV:=gI .u64 x λx1=>
 bd (
 aR (decide ((4294967296:Int)<=x1)) (
 b5 (decide ((0:Int)<=32))<|
 some (0,[.i .u64 (OF x1 (2^min (AI 32) (IS .u64))),.i .i64 32])) (
 some (0,[.i .u64 x1,.i .i64 0]))) λp=>
 b5 (sh p.1 0)<|
 oII .u64 .i64 p.2 λx2 n=>
 bd (
 aR (decide ((65536:Int)<=x2)) (
 b5 (decide ((0:Int)<=16))<|
 some (0,[.i .u64 (OF x2 (2^min (AI 16) (IS .u64))),.i .i64 (fj .i64 (n+16))])) (
 some (0,[.i .u64 x2,.i .i64 n]))) λp1=>
 b5 (sh p1.1 0)<|
 oII .u64 .i64 p1.2 λx3 n1=>
 bd (
 aR (decide ((256:Int)<=x3)) (
 b5 (decide ((0:Int)<=8))<|
 some (0,[.i .u64 (OF x3 (2^min (AI 8) (IS .u64))),.i .i64 (fj .i64 (n1+8))])) (
 some (0,[.i .u64 x3,.i .i64 n1]))) λp2=>
 b5 (sh p2.1 0)<|
 oII .u64 .i64 p2.2 λx4 n2=>
 b5 (decide ((0:Int)<=(fj .u8 x4)/\(fj .u8 x4)<(((([0,1,2,2,3,3,3,3,4,4,4,4,4,4,4,4,5,5,5,5,5,5,5,5,5,5,5,5,5,5,5,5,6,6,6,6,6,6,6,6,6,6,6,6,6,6,6,6,6,6,6,6,6,6,6,6,6,6,6,6,6,6,6,6]:List UInt8)++([7,7,7,7,7,7,7,7,7,7,7,7,7,7,7,7,7,7,7,7,7,7,7,7,7,7,7,7,7,7,7,7,7,7,7,7,7,7,7,7,7,7,7,7,7,7,7,7,7,7,7,7,7,7,7,7,7,7,7,7,7,7,7,7]:List UInt8))++(([8,8,8,8,8,8,8,8,8,8,8,8,8,8,8,8,8,8,8,8,8,8,8,8,8,8,8,8,8,8,8,8,8,8,8,8,8,8,8,8,8,8,8,8,8,8,8,8,8,8,8,8,8,8,8,8,8,8,8,8,8,8,8,8]:List UInt8)++([8,8,8,8,8,8,8,8,8,8,8,8,8,8,8,8,8,8,8,8,8,8,8,8,8,8,8,8,8,8,8,8,8,8,8,8,8,8,8,8,8,8,8,8,8,8,8,8,8,8,8,8,8,8,8,8,8,8,8,8,8,8,8,8]:List UInt8))).length:Int)))<|
 some (.i .i64 (fj .i64 (n2+(fj .i64 ((((([0,1,2,2,3,3,3,3,4,4,4,4,4,4,4,4,5,5,5,5,5,5,5,5,5,5,5,5,5,5,5,5,6,6,6,6,6,6,6,6,6,6,6,6,6,6,6,6,6,6,6,6,6,6,6,6,6,6,6,6,6,6,6,6]:List UInt8)++([7,7,7,7,7,7,7,7,7,7,7,7,7,7,7,7,7,7,7,7,7,7,7,7,7,7,7,7,7,7,7,7,7,7,7,7,7,7,7,7,7,7,7,7,7,7,7,7,7,7,7,7,7,7,7,7,7,7,7,7,7,7,7,7]:List UInt8))++(([8,8,8,8,8,8,8,8,8,8,8,8,8,8,8,8,8,8,8,8,8,8,8,8,8,8,8,8,8,8,8,8,8,8,8,8,8,8,8,8,8,8,8,8,8,8,8,8,8,8,8,8,8,8,8,8,8,8,8,8,8,8,8,8]:List UInt8)++([8,8,8,8,8,8,8,8,8,8,8,8,8,8,8,8,8,8,8,8,8,8,8,8,8,8,8,8,8,8,8,8,8,8,8,8,8,8,8,8,8,8,8,8,8,8,8,8,8,8,8,8,8,8,8,8,8,8,8,8,8,8,8,8]:List UInt8))).getD (AI (fj .u8 x4)) 0).toNat:Int)))))
def Lm:GT:=bt 191 (iT zC) TE
theorem Ln:SG Lm:=ln Rg [] 25 [] [(8,⟨[],[],[],[(0,[(0,.sc (.k (.i .u64))),(2,.sc (.k (.i .i64)))])],[]⟩),(5,⟨[],[],[],[(0,[(0,.sc (.k (.i .u64))),(2,.sc (.k (.i .i64)))])],[]⟩),(2,⟨[],[],[],[(0,[(0,.sc (.k (.i .u64))),(2,.sc (.k (.i .i64)))])],[]⟩)] [] Tryz.func191 (by kernel_rfl) (ct (λ_=>by kernel_rfl))
def zD (n:MV):Option MV:=gI .u64 n λn1=>
 bd (zC (.i .u64 n1)) λrA=>
 gI .i64 rA λx=>
 b5 (!decide ((8:Int)=0))<|
 some (.i .i64 (fj .i64 (1+(fj .i64 (aaH (fj .i64 (x+7)) 8)))))
def Lo:GT:=bt 186 (iT zD) Lm
theorem Lp:SG Lo:=ln Ln [] 8 [] [] [] Tryz.func186 (by kernel_rfl) (ct (λ_=>by kernel_rfl))
def oU (sA:MV):Option MV:=gL sA λCe=>
 bB Ce λlen=>
 bB Ce λdk=>
 b5 (decide ((len:Int)=(Ce.length:Int)/\(dk:Int)=(Ce.length:Int)))<|
 some (.clip Ce)
def Af:GT:=bt 187 (iT oU) Lo
theorem CN:SG Af:=ln Lp [] 9 [] [] [] Tryz.func187 (by kernel_rfl) (ct (λ_=>by kernel_rfl))
def yw (b n:MV):Option MV:=gL b λb1=>
 gI .u64 n λn1=>
 bd (zD (.i .u64 n1)) λrA=>
 gI .i64 rA λx=>
 bd (oU (.list b1)) λaY=>
 gCl aY λxs=>
 b5 (oa 1 xs)<|
 bB xs λlen=>
 bB ([.i .u8 (fj .u8 (fj .i64 (x-1)))]:List MV) λdk=>
 b5 (decide (0<dk/\(len+dk) *1<=2^46))<|
 bd (Loop (λqC=>
 Dk qC λout i=>
 aR (decide ((0:Int)<=i)) (
 b5 (decide ((0:Int)<=(fj .i64 (8 *i))))<|
 bB out λgj=>
 bB ([.i .u8 (fj .u8 (OF n1 (2^min (AI (fj .i64 (8 *i))) (IS .u64))))]:List MV) λrb=>
 b5 (decide ((gj+rb) *1<=2^46))<|
 some (.inl [.list (out++([.i .u8 (fj .u8 (OF n1 (2^min (AI (fj .i64 (8 *i))) (IS .u64))))]:List MV)),.i .i64 (fj .i64 (i-1))])) (
 some (.inr (2,[.list out])))) [.list (xs++([.i .u8 (fj .u8 (fj .i64 (x-1)))]:List MV)),.i .i64 (fj .i64 ((fj .i64 (x-1))-1))]) λp=>
 b5 (sh p.1 2)<|
 gC p.2 λm2 rI=>
 gL m2 λLl=>
 gN rI<|
 some (.fresh Ll)
def Pk:GT:=bt 170 (eO yw) Af
theorem Nz:SG Pk:=fnF CN 5 [] [] 32 [15,29] [] [] [] [] [] [(4,⟨[1],[],[(6,.sc (.own 16 5 false)),(7,.sc (.k (.i .i64)))],[(2,[(6,.sc (.own 16 5 false))])],[]⟩)] [] Tryz.func170 (by kernel_rfl) (by kernel_rfl) (bG (λ_ _=>by kernel_rfl))
def nD (b n:MV):Option MV:=gL b λb1=>
 gI .i64 n λn1=>
 b5 (decide ((0:Int)<=1))<|
 b5 (decide ((0:Int)<=63))<|
 bd (yw (.list b1) (.i .u64 (GW .u64 (fj .u64 ((fj .u64 n1) *2^min (AI 1) (IS .u64))) (fj .u64 (OF n1 (2^min (AI 63) (IS .i64))))))) λrA=>
 gF rA λxs=>
 some (.fresh xs)
def Pl:GT:=bt 131 (eO nD) Pk
theorem NA:SG Pl:=fnF Nz 5 [] [] 14 [] [] [] [] [] [] [] [] Tryz.func131 (by kernel_rfl) (by kernel_rfl) (bG (λ_ _=>by kernel_rfl))
def vn (b sA:MV):Option MV:=gL b λb1=>
 gS sA λCe=>
 bd (yw (.list b1) (.i .u64 (fj .u64 (Ce.length:Int)))) λrA=>
 gF rA λxs=>
 bB xs λlen=>
 bB (M8 Ce) λdk=>
 b5 (decide ((len+dk) *1<=2^46))<|
 some (.fresh (xs++(M8 Ce)))
def Lq:GT:=bt 132 (eO vn) Pl
theorem Lr:SG Lq:=fnF NA 5 [] [] 12 [] [] [] [] [] [] [] [] Tryz.func132 (by kernel_rfl) (by kernel_rfl) (bG (λ_ _=>by kernel_rfl))
def se (a:MV):Option MV:=gA a λcs=>
 cJ cs λSF ST Me View Has At Value Proof cQ=>
 bd (nD (.list ([]:List MV)) (.i .i64 View)) λrA=>
 gF rA λxs=>
 bd (oz (.b Has)) λaY=>
 gI .i64 aY λx=>
 bd (nD (.list xs) (.i .i64 x)) λbH=>
 gF bH λAG=>
 bd (nD (.list AG) (.i .i64 At)) λcr=>
 gF cr λHo=>
 bB Proof λlen=>
 bd (vn (.list Ho) (.s Value)) λeU=>
 gF eU λJG=>
 bd (nD (.list JG) (.i .i64 (len:Int))) λkP=>
 gF kP λRc=>
 bB Proof λdk=>
 bd (Loop (λmX=>
 Dk mX λb x1=>
 aR (decide (x1<(dk:Int))) (
 idx Proof x1 λy=>
 gA y λdu=>
 eJ du λBy b7 bc=>
 bd (nD (.list b) (.i .i64 By)) λqm=>
 gF qm λZY=>
 some (.inl [.list ZY,.i .i64 (fj .i64 (x1+1))])) (
 some (.inr (2,[.list b])))) [.list Rc,.i .i64 0]) λp=>
 b5 (sh p.1 2)<|
 gC p.2 λBj lD=>
 gL Bj λb1=>
 gN lD<|
 bd (vm (.list Proof)) λA8=>
 gT A8 λvs=>
 Hk vs λx2 x3 x4=>
 bd (
 aR x4 (
 bd (nD (.list b1) (.i .i64 x2)) λGR=>
 gF GR λxs6=>
 bd (vn (.list xs6) (.s x3)) λrA9=>
 gF rA9 λxs7=>
 some (0,[.list xs7])) (
 some (0,[.list b1]))) λp1=>
 b5 (sh p1.1 0)<|
 gC p1.2 λHi mZ=>
 gL Hi λb2=>
 gN mZ<|
 some (.list b2)
def Dr:GT:=bt 64 (iT se) Lq
theorem FE:SG Dr:=pX Lr [] [] 53 [] [] [] [(1,[0,1,3,4,7,8,2,5,6,9,10]),(2,[0,1,2,4,5,6,3,7,8])] [] [(10,⟨[6,7],[],[],[(0,[(3,.sc (.own 26 5 true))])],[11,15,18,22,26,37,49,51]⟩)] [(4,⟨[1,28,29],[],[(3,.sc (.own 26 5 true)),(30,.sc (.k (.i .i64)))],[(2,[(3,.sc (.own 26 5 true))])],[11,15,18,22,26,37,49,51]⟩)] [] Tryz.func64 (by kernel_rfl) (ct (λ_=>by kernel_rfl))
def qI (sA i n:MV):Option MV:=gA sA λcs=>
 oT cs λF T=>
 gI .i64 i λi1=>
 gA n λdu=>
 aF du λpR pS pT cq fN pU cc cf bK pV pW bg bh cg db ch cy fh=>
 bd (se (.agg (br pR pS pT cq fN pU cc cf bK))) λrA=>
 gL rA λx=>
 bd (sd (.agg [.i .i64 F,.i .i64 T]) (.i .i64 i1) (.list x)) λaY=>
 gT aY λvs=>
 gC vs λK5 kE=>
 gA K5 λiM=>
 cJ iM λSF ST Me View Has At Value Proof cQ=>
 gC kE λWs sW=>
 gI .i64 Ws λx1=>
 gN sW<|
 bd (sU (.agg [.i .i64 F,.i .i64 T])) λbH=>
 gT bH λfO=>
 gC fO λm31 Ls=>
 gA m31 λnn=>
 di nn λs8 s9 cw cn fS bE bc=>
 gC Ls λm39 Fy=>
 gI .i64 m39 λx2=>
 gN Fy<|
 some (.agg (al SF ST Me View Has At Value Proof cQ s8 s9 cw cn fS bE bc ([]:List MV) View))
def FF:GT:=bt 22 (uU qI) Dr
theorem Hq:SG FF:=pX FE [] [] 30 [] [] [] [(1,[0,1,2,3,4,5,6,7,8,9,10,11])] [] [] [] [] Tryz.func22 (by kernel_rfl) (gQ (λ_ _ _=>by kernel_rfl))
def gd (c i bad:MV):Option MV:=gA c λcs=>
 dW cs λSF ST fW Want N cA=>
 gI .i64 i λi1=>
 gB bad λaww=>
 bd (
 aR (decide ((0:Int)<=i1)) (
 bB fW λlen=>
 aR (decide (i1<(len:Int))) (
 idx fW i1 λy=>
 gB y λx=>
 some [.b (decide (x=aww))]) (
 some [.b false])) (
 some [.b false])) λvs=>
 gC vs λm6 Hl=>
 gB m6 λx1=>
 gN Hl<|
 some (.b x1)
def Iq:GT:=bt 73 (uU gd) FF
theorem Jd:SG Iq:=ln Hq [] 25 [(1,⟨[1,2,3],[],[],[(0,[(6,.sc (.k .b))])],[]⟩)] [] [] Tryz.func73 (by kernel_rfl) (gQ (λ_ _ _=>by kernel_rfl))
def je (s1 s2:MV):Option MV:=gL s1 λWy=>
 gL s2 λadH=>
 bB Wy λlen=>
 bB adH λdk=>
 aR (!decide ((len:Int)=(dk:Int))) (
 some (.b false)) (
 bB Wy λgj=>
 bd (Loop (λqC=>
 gC qC λm lY=>
 gI .i64 m λx=>
 gN lY<|
 aR (decide (x<(gj:Int))) (
 idx Wy x λy=>
 gA y λcs=>
 eJ cs λBy View Value=>
 idx adH x λy1=>
 gA y1 λdu=>
 eJ du λvj b7 bc=>
 aR (!((decide (By=vj))&&((decide (View=b7))&&(decide (Value=bc))))) (
 some (.inr (1,[.b false]))) (
 some (.inl [.i .i64 (fj .i64 (x+1))]))) (
 some (.inr (2,[])))) [.i .i64 0]) λp=>
 aR (sh p.1 2) (
 gN p.2<|
 some (.b true)) (
 b5 (sh p.1 1)<|
 gC p.2 λm7 rK=>
 gB m7 λx1=>
 gN rK<|
 some (.b x1)))
def rj:GT:=bt 180 (eO je) Iq
theorem vX:SG rj:=pX Jd [] [] 26 [] [] [] [(6,[0,1,2,3,4,5,6,7,8])] [] [] [(4,⟨[0,1,12],[],[(13,.sc (.k (.i .i64)))],[(1,[(4,.sc (.k .b))]),(2,[])],[]⟩)] [] Tryz.func180 (by kernel_rfl) (bG (λ_ _=>by kernel_rfl))
def zE (a b:MV):Option MV:=gL a λa1=>
 gL b λb1=>
 bd (je (.list a1) (.list b1)) λrA=>
 gB rA λx=>
 some (.b x)
def Lt:GT:=bt 152 (eO zE) rj
theorem Lu:SG Lt:=ln vX [] 8 [] [] [] Tryz.func152 (by kernel_rfl) (bG (λ_ _=>by kernel_rfl))
def sf (x y:MV):Option MV:=gA x λcs=>
 cL cs λBy fP Has View Value Proof=>
 gA y λdu=>
 cL du λvj FG oJ b7 bc dS=>
 bd (
 aR (decide (By=vj)) (
 aR (decide (fP=FG)) (
 aR (decide (Has=oJ)) (
 aR (decide (View=b7)) (
 aR (decide (Value=bc)) (
 bd (zE (.list Proof) (.list dS)) λrA=>
 gB rA λx1=>
 some [.b x1]) (
 some [.b false])) (
 some [.b false])) (
 some [.b false])) (
 some [.b false])) (
 some [.b false])) λvs=>
 gC vs λvW gq=>
 gB vW λx2=>
 gN gq<|
 some (.b x2)
def xy:GT:=bt 176 (eO sf) Lt
theorem FH:SG xy:=ln Lu [] 45 [(1,⟨[2,3],[],[],[(0,[(4,.sc (.k .b))])],[]⟩)] [] [] Tryz.func176 (by kernel_rfl) (bG (λ_ _=>by kernel_rfl))
def dv:GT:=xy
theorem gU (x0 x1:MV):dv 176 [x0,x1]=sf x0 x1:=by kernel_rfl
def cS (s1 s2 eq:MV):Option MV:=gL s1 λWy=>
 gL s2 λadH=>
 gR eq λeq1=>
 bB Wy λlen=>
 bB adH λdk=>
 aR (!decide ((len:Int)=(dk:Int))) (
 some (.b false)) (
 bB Wy λgj=>
 bd (Loop (λqC=>
 gC qC λm lY=>
 gI .i64 m λx=>
 gN lY<|
 aR (decide (x<(gj:Int))) (
 idx Wy x λy=>
 gA y λcs=>
 cL cs λBy fP Has View Value Proof=>
 idx adH x λy1=>
 gA y1 λdu=>
 cL du λvj FG oJ b7 bc dS=>
 Xs eq1 λfn cap=>
 b5 (!gv fn)<|
 bd (dv fn ([.agg (cD By fP Has View Value Proof),.agg (cD vj FG oJ b7 bc dS)]++cap)) λrA=>
 gB rA λx1=>
 aR (!x1) (
 some (.inr (1,[.b false]))) (
 some (.inl [.i .i64 (fj .i64 (x+1))]))) (
 some (.inr (2,[])))) [.i .i64 0]) λp=>
 aR (sh p.1 2) (
 gN p.2<|
 some (.b true)) (
 b5 (sh p.1 1)<|
 gC p.2 λCL ox=>
 gB CL λx2=>
 gN ox<|
 some (.b x2)))
def fI:GT:=bt 175 (uU cS) xy
theorem jm:SG fI:=ln FH [] 32 [] [] [(4,⟨[1,2,15,16],[],[(17,.sc (.k (.i .i64)))],[(1,[(6,.sc (.k .b))]),(2,[])],[]⟩)] Tryz.func175 (by kernel_rfl) (gQ (λ_ _ _=>by kernel_rfl))
def wP (a b:MV):Option MV:=gL a λa1=>
 gL b λb1=>
 bd (cS (.list a1) (.list b1) (.func 176 [])) λrA=>
 gB rA λx=>
 some (.b x)
def Ir:GT:=bt 144 (eO wP) fI
theorem Je:SG Ir:=ln jm [] 8 [] [] [] Tryz.func144 (by kernel_rfl) (bG (λ_ _=>by kernel_rfl))
def kf (m c:MV):Option MV:=gA m λcs=>
 bS cs λKind dU View Value dX ei cO b9 Proof Cf nY nZ iD eW eL=>
 gP c λdu=>
 cL du λBy fP Has b7 bc dS=>
 bd (
 aR (decide (Kind=4)) (
 bd (wP (.list ([.agg (cD Cf nY nZ iD eW eL)]:List MV)) (.list ([.agg (cD By fP Has b7 bc dS)]:List MV))) λrA=>
 gB rA λx=>
 some [.b x]) (
 some [.b false])) λvs=>
 gC vs λm22 vf=>
 gB m22 λx1=>
 gN vf<|
 some (.b x1)
def tB:GT:=bt 143 (eO kf) Ir
theorem yx:SG tB:=pX Je [[.i .i64,.i .i64,.b,.i .i64,.s,.l]] [] 15 [10,12] [] [] [] [(1,⟨[1,2],[],[],[(0,[(3,.sc (.k .b))])],[]⟩)] [] [] [] Tryz.func143 (by kernel_rfl) (bG (λ_ _=>by kernel_rfl))
def mn (m c:MV):Option MV:=gA m λcs=>
 bS cs λKind dU View Value dX ei cO b9 Proof Cf nY nZ iD eW eL=>
 gP c λdu=>
 eJ du λBy b7 bc=>
 bd (
 aR (decide (Kind=2)) (
 some [.b ((decide (ei=By))&&((decide (cO=b7))&&(decide (b9=bc))))]) (
 some [.b false])) λvs=>
 gC vs λNt jK=>
 gB Nt λx=>
 gN jK<|
 some (.b x)
def qJ:GT:=bt 179 (eO mn) tB
theorem Ar:SG qJ:=ln yx [[.i .i64,.i .i64,.s]] 13 [(1,⟨[1,2],[],[],[(0,[(3,.sc (.k .b))])],[]⟩)] [] [] Tryz.func179 (by kernel_rfl) (bG (λ_ _=>by kernel_rfl))
def eQ:GT:=qJ
theorem fU (x0 x1:MV):eQ 143 [x0,x1]=kf x0 x1:=by kernel_rfl
theorem lZ (x0 x1:MV):eQ 179 [x0,x1]=mn x0 x1:=by kernel_rfl
def il (sA f:MV):Option MV:=gL sA λCe=>
 gR f λf1=>
 bB Ce λlen=>
 bd (Loop (λqC=>
 gC qC λm lY=>
 gI .i64 m λx=>
 gN lY<|
 aR (decide (x<(len:Int))) (
 idx Ce x λy=>
 gA y λcs=>
 bS cs λKind dU View Value dX ei cO b9 Proof Cf nY nZ iD eW eL=>
 Xs f1 λfn cap=>
 b5 (!gv fn)<|
 bd (eQ fn ([.agg (ay Kind dU View Value dX ei cO b9 Proof Cf nY nZ iD eW eL)]++cap)) λrA=>
 gB rA λx1=>
 aR x1 (
 some (.inr (1,[.i .i64 x]))) (
 some (.inl [.i .i64 (fj .i64 (x+1))]))) (
 some (.inr (2,[])))) [.i .i64 0]) λp=>
 aR (sh p.1 2) (
 gN p.2<|
 some (.i .i64 (-1))) (
 b5 (sh p.1 1)<|
 gC p.2 λK4 na=>
 gI .i64 K4 λx2=>
 gN na<|
 some (.i .i64 x2))
def pE:GT:=bt 177 (eO il) qJ
theorem tU:SG pE:=ln Ar [] 19 [] [] [(2,⟨[0,1,7],[],[(8,.sc (.k (.i .i64)))],[(1,[(4,.sc (.k (.i .i64)))]),(2,[])],[]⟩)] Tryz.func177 (by kernel_rfl) (bG (λ_ _=>by kernel_rfl))
def dH (sA f:MV):Option MV:=gL sA λCe=>
 gR f λf1=>
 bd (il (.list Ce) f1) λrA=>
 gI .i64 rA λx=>
 some (.b (decide ((0:Int)<=x)))
def nb:GT:=bt 145 (eO dH) pE
theorem rL:SG nb:=ln tU [] 9 [] [] [] Tryz.func145 (by kernel_rfl) (bG (λ_ _=>by kernel_rfl))
def oV (c a:MV):Option MV:=gA c λcs=>
 dW cs λSF ST fW Want N cA=>
 gA a λdu=>
 eJ du λBy View Value=>
 bd (
 bd (gd (.agg (bx SF ST fW Want N cA)) (.i .i64 By) (.b true)) λrA=>
 gB rA λx=>
 aR x (
 some [.b true]) (
 bd (dH (.list cA) (.func 179 [.rp [.i .i64 By,.i .i64 View,.s Value]])) λaY=>
 gB aY λx1=>
 some [.b x1])) λvs=>
 gC vs λm9 mX=>
 gB m9 λx2=>
 gN mX<|
 some (.b x2)
def Ag:GT:=bt 148 (eO oV) nb
theorem CO:SG Ag:=ln rL [] 17 [(2,⟨[2,3,5],[],[],[(0,[(4,.sc (.k .b))])],[]⟩)] [] [] Tryz.func148 (by kernel_rfl) (bG (λ_ _=>by kernel_rfl))
def kg (a c:MV):Option MV:=gA a λcs=>
 eJ cs λBy View Value=>
 gP c λdu=>
 dW du λSF ST fW Want N cA=>
 bd (oV (.agg (bx SF ST fW Want N cA)) (.agg [.i .i64 By,.i .i64 View,.s Value])) λrA=>
 gB rA λx=>
 some (.b (!x))
def n4:GT:=bt 147 (eO kg) Ag
theorem yy:SG n4:=ln CO [[.i .i64,.i .i64,.l,.l,.l,.l]] 8 [] [] [] Tryz.func147 (by kernel_rfl) (bG (λ_ _=>by kernel_rfl))
def fJ:GT:=n4
theorem kF (x0 x1:MV):fJ 147 [x0,x1]=kg x0 x1:=by kernel_rfl
def gk (sA f:MV):Option MV:=gL sA λCe=>
 gR f λf1=>
 bB Ce λlen=>
 bd (Loop (λqC=>
 gC qC λm lY=>
 gI .i64 m λx=>
 gN lY<|
 aR (decide (x<(len:Int))) (
 idx Ce x λy=>
 gA y λcs=>
 eJ cs λBy View Value=>
 Xs f1 λfn cap=>
 b5 (!gv fn)<|
 bd (fJ fn ([.agg [.i .i64 By,.i .i64 View,.s Value]]++cap)) λrA=>
 gB rA λx1=>
 aR x1 (
 some (.inr (1,[.i .i64 x]))) (
 some (.inl [.i .i64 (fj .i64 (x+1))]))) (
 some (.inr (2,[])))) [.i .i64 0]) λp=>
 aR (sh p.1 2) (
 gN p.2<|
 some (.i .i64 (-1))) (
 b5 (sh p.1 1)<|
 gC p.2 λm4 Ec=>
 gI .i64 m4 λx2=>
 gN Ec<|
 some (.i .i64 x2))
def nO:GT:=bt 178 (eO gk) n4
theorem sX:SG nO:=ln yy [] 19 [] [] [(2,⟨[0,1,7],[],[(8,.sc (.k (.i .i64)))],[(1,[(4,.sc (.k (.i .i64)))]),(2,[])],[]⟩)] Tryz.func178 (by kernel_rfl) (bG (λ_ _=>by kernel_rfl))
def fp (sA f:MV):Option MV:=gL sA λCe=>
 gR f λf1=>
 bd (gk (.list Ce) f1) λrA=>
 gI .i64 rA λx=>
 some (.b (decide ((0:Int)<=x)))
def lE:GT:=bt 146 (eO fp) nO
theorem qK:SG lE:=ln sX [] 9 [] [] [] Tryz.func146 (by kernel_rfl) (bG (λ_ _=>by kernel_rfl))
def iq (c lA:MV):Option MV:=gA c λcs=>
 dW cs λSF ST fW Want N cA=>
 gL lA λBm=>
 bd (fp (.list Bm) (.func 147 [.rp (bx SF ST fW Want N cA)])) λrA=>
 gB rA λx=>
 some (.b (!x))
def wQ:GT:=bt 81 (eO iq) lE
theorem As:SG wQ:=ln qK [] 9 [] [] [] Tryz.func81 (by kernel_rfl) (bG (λ_ _=>by kernel_rfl))
def mq (c rA:MV):Option MV:=gA c λcs=>
 dW cs λSF ST fW Want N cA=>
 gA rA λdu=>
 cL du λBy fP Has View Value Proof=>
 bd (
 bd (gd (.agg (bx SF ST fW Want N cA)) (.i .i64 By) (.b true)) λaY=>
 gB aY λx=>
 aR x (
 bd (iq (.agg (bx SF ST fW Want N cA)) (.list Proof)) λbH=>
 gB bH λx1=>
 aR x1 (
 some [.b true]) (
 bd (dH (.list cA) (.func 143 [.rp (cD By fP Has View Value Proof)])) λcr=>
 gB cr λx2=>
 some [.b x2])) (
 bd (dH (.list cA) (.func 143 [.rp (cD By fP Has View Value Proof)])) λeU=>
 gB eU λx3=>
 some [.b x3])) λvs=>
 gC vs λvW gq=>
 gB vW λx4=>
 gN gq<|
 some (.b x4)
def wR:GT:=bt 80 (eO mq) wQ
theorem Au:SG wR:=ln As [] 23 [(2,⟨[2,3,5],[],[],[(0,[(4,.sc (.k .b))])],[]⟩)] [] [] Tryz.func80 (by kernel_rfl) (bG (λ_ _=>by kernel_rfl))
def tV (rA c:MV):Option MV:=gA rA λcs=>
 cL cs λBy fP Has View Value Proof=>
 gP c λdu=>
 dW du λSF ST fW Want N cA=>
 bd (mq (.agg (bx SF ST fW Want N cA)) (.agg (cD By fP Has View Value Proof))) λaY=>
 gB aY λx=>
 some (.b (!x))
def zF:GT:=bt 79 (eO tV) wR
theorem Hr:SG zF:=ln Au [[.i .i64,.i .i64,.l,.l,.l,.l]] 8 [] [] [] Tryz.func79 (by kernel_rfl) (bG (λ_ _=>by kernel_rfl))
def fK:GT:=zF
theorem nE (x0 x1:MV):fK 79 [x0,x1]=tV x0 x1:=by kernel_rfl
def gl (sA f:MV):Option MV:=gL sA λCe=>
 gR f λf1=>
 bB Ce λlen=>
 bd (Loop (λqC=>
 gC qC λm lY=>
 gI .i64 m λx=>
 gN lY<|
 aR (decide (x<(len:Int))) (
 idx Ce x λy=>
 gA y λcs=>
 cL cs λBy fP Has View Value Proof=>
 Xs f1 λfn cap=>
 b5 (!gv fn)<|
 bd (fK fn ([.agg (cD By fP Has View Value Proof)]++cap)) λrA=>
 gB rA λx1=>
 aR x1 (
 some (.inr (1,[.i .i64 x]))) (
 some (.inl [.i .i64 (fj .i64 (x+1))]))) (
 some (.inr (2,[])))) [.i .i64 0]) λp=>
 aR (sh p.1 2) (
 gN p.2<|
 some (.i .i64 (-1))) (
 b5 (sh p.1 1)<|
 gC p.2 λm7 rK=>
 gI .i64 m7 λx2=>
 gN rK<|
 some (.i .i64 x2))
def nP:GT:=bt 142 (eO gl) zF
theorem sY:SG nP:=ln Hr [] 19 [] [] [(2,⟨[0,1,7],[],[(8,.sc (.k (.i .i64)))],[(1,[(4,.sc (.k (.i .i64)))]),(2,[])],[]⟩)] Tryz.func142 (by kernel_rfl) (bG (λ_ _=>by kernel_rfl))
def fq (sA f:MV):Option MV:=gL sA λCe=>
 gR f λf1=>
 bd (gl (.list Ce) f1) λrA=>
 gI .i64 rA λx=>
 some (.b (decide ((0:Int)<=x)))
def lF:GT:=bt 78 (eO fq) nP
theorem qL:SG lF:=ln sY [] 9 [] [] [] Tryz.func78 (by kernel_rfl) (bG (λ_ _=>by kernel_rfl))
def zG (c m:MV):Option MV:=gA c λcs=>
 dW cs λSF ST fW Want N cA=>
 gA m λdu=>
 bS du λKind dU View Value dX ei cO b9 Proof Cf nY nZ iD eW eL=>
 aR (decide (Kind=1)) (
 bd (
 bd (gd (.agg (bx SF ST fW Want N cA)) (.i .i64 dU) (.b true)) λrA=>
 gB rA λx=>
 aR x (
 bd (fq (.list dX) (.func 79 [.rp (bx SF ST fW Want N cA)])) λaY=>
 gB aY λx1=>
 some [.b (!x1)]) (
 some [.b false])) λvs=>
 gC vs λm22 vf=>
 gB m22 λx2=>
 gN vf<|
 some (.b x2)) (
 aR (decide (Kind=2)) (
 bd (gd (.agg (bx SF ST fW Want N cA)) (.i .i64 ei) (.b true)) λbH=>
 gB bH λx3=>
 some (.b x3)) (
 aR (decide (Kind=3)) (
 bd (
 bd (gd (.agg (bx SF ST fW Want N cA)) (.i .i64 dU) (.b true)) λcr=>
 gB cr λx4=>
 aR x4 (
 bd (iq (.agg (bx SF ST fW Want N cA)) (.list Proof)) λeU=>
 gB eU λx5=>
 some [.b x5]) (
 some [.b false])) λfO=>
 gC fO λm23 adI=>
 gB m23 λx6=>
 gN adI<|
 some (.b x6)) (
 aR (decide (Kind=4)) (
 bd (
 bd (gd (.agg (bx SF ST fW Want N cA)) (.i .i64 Cf) (.b true)) λkP=>
 gB kP λx7=>
 aR x7 (
 bd (iq (.agg (bx SF ST fW Want N cA)) (.list eL)) λqm=>
 gB qm λx8=>
 some [.b x8]) (
 some [.b false])) λpP=>
 gC pP λWr FC=>
 gB Wr λx9=>
 gN FC<|
 some (.b x9)) (
 aR (decide (Kind=5)) (
 bd (gd (.agg (bx SF ST fW Want N cA)) (.i .i64 dU) (.b true)) λA8=>
 gB A8 λll=>
 some (.b ll)) (
 some (.b false))))))
def Lv:GT:=bt 31 (eO zG) lF
theorem Lw:SG Lv:=pX qL [] [] 59 [] [] [(1,[2])] [] [(3,⟨[2,3],[],[],[(0,[(4,.sc (.k .b))])],[]⟩),(7,⟨[2,3],[],[],[(0,[(4,.sc (.k .b))])],[]⟩),(9,⟨[2,3],[],[],[(0,[(4,.sc (.k .b))])],[]⟩)] [] [] [] Tryz.func31 (by kernel_rfl) (bG (λ_ _=>by kernel_rfl))
def fA (sA:MV):Option MV:=gL sA λCe=>
 bB Ce λlen=>
 bB Ce λdk=>
 b5 (decide ((len:Int)=(Ce.length:Int)/\(dk:Int)=(Ce.length:Int)))<|
 some (.clip Ce)
def vp:GT:=bt 140 (iT fA) Lv
theorem zH:SG vp:=ln Lw [] 9 [] [] [] Tryz.func140 (by kernel_rfl) (ct (λ_=>by kernel_rfl))
def pF (sA view:MV):Option MV:=gA sA λcs=>
 oT cs λF T=>
 gI .i64 view λdZ=>
 bd (th (.agg [.i .i64 F,.i .i64 T])) λrA=>
 gI .i64 rA λx=>
 b5 (!decide (x=0))<|
 some (.i .i64 (aaI (imax dZ 0) x))
def Is:GT:=bt 42 (eO pF) vp
theorem Jf:SG Is:=ln zH [] 10 [] [] [] Tryz.func42 (by kernel_rfl) (bG (λ_ _=>by kernel_rfl))
def oK (rA:MV):Option MV:=gA rA λcs=>
 cL cs λBy fP Has View Value Proof=>
 bd (vm (.list Proof)) λaY=>
 gT aY λvs=>
 Hk vs λx x1 x2=>
 aR (!x2) (
 some (.i .i64 (-1))) (
 some (.i .i64 x))
def Ds:GT:=bt 123 (iT oK) Is
theorem FI:SG Ds:=ln Jf [] 16 [] [] [] Tryz.func123 (by kernel_rfl) (ct (λ_=>by kernel_rfl))
def zI (sA:MV):Option MV:=gA sA λcs=>
 oT cs λF T=>
 bd (jI (.agg [.i .i64 F,.i .i64 T]) (.raw (.complex .f64 4607182418800017408 4607182418800017408))) λrA=>
 gI .i64 rA λx=>
 some (.i .i64 x)
def Lx:GT:=bt 124 (iT zI) Ds
theorem Ly:SG Lx:=ln FI [] 5 [] [] [] Tryz.func124 (by kernel_rfl) (ct (λ_=>by kernel_rfl))
def qM (a a1:MV):Option MV:=gA a λcs=>
 oT cs λF T=>
 gL a1 λez=>
 bB ez λlen=>
 bd (Loop (λjW=>
 gC jW λm2 rI=>
 gI .i64 m2 λx=>
 gC rI λm3 qD=>
 gS m3 λx1=>
 gC qD λm4 Ec=>
 gI .i64 m4 λx2=>
 gN Ec<|
 aR (decide (x2<(len:Int))) (
 idx ez x2 λy=>
 gA y λdu=>
 cL du λBy fP Has View Value Proof=>
 bd (oK (.agg (cD By fP Has View Value Proof))) λrA=>
 gI .i64 rA λx3=>
 bd (
 aR (decide (x<x3)) (
 idx Proof 0 λy1=>
 gA y1 λiM=>
 eJ iM λvj b7 bc=>
 some (0,[.i .i64 x3,.s bc])) (
 some (0,[.i .i64 x,.s x1]))) λp1=>
 b5 (sh p1.1 0)<|
 gC p1.2 λBj lD=>
 gI .i64 Bj λx4=>
 gC lD λCM qN=>
 gS CM λx5=>
 gN qN<|
 some (.inl [.i .i64 x4,.s x5,.i .i64 (fj .i64 (x2+1))])) (
 some (.inr (2,[.i .i64 x,.s x1])))) [.i .i64 (-1),.s ([]:List UInt8),.i .i64 0]) λp=>
 b5 (sh p.1 2)<|
 gC p.2 λK4 na=>
 gI .i64 K4 λx6=>
 gC na λBk jK=>
 gS Bk λx7=>
 gN jK<|
 bB ez λdk=>
 bd (Loop (λmZ=>
 Dk mZ λes x8=>
 aR (decide (x8<(dk:Int))) (
 idx ez x8 λy2=>
 gA y2 λnn=>
 cL nn λSh FG oJ j7 dG dS=>
 bd (
 aR oJ (
 some [.b (decide (x6<j7))]) (
 some [.b false])) λvs=>
 gC vs λTu Ft=>
 gB Tu λx9=>
 gN Ft<|
 bd (
 aR x9 (
 some (0,[.list (uI (nU es ([.s dG]:List MV) (.i .i64 0)) (df es ([.s dG]:List MV)) (.i .i64 (fj .i64 ((oc es ([.s dG]:List MV))+1))))])) (
 some (0,[.list es]))) λp3=>
 b5 (sh p3.1 0)<|
 gC p3.2 λm27 Fu=>
 gL m27 λes1=>
 gN Fu<|
 some (.inl [.list es1,.i .i64 (fj .i64 (x8+1))])) (
 some (.inr (4,[.list es])))) [.list ([]:List MV),.i .i64 0]) λp2=>
 b5 (sh p2.1 4)<|
 gC p2.2 λZT sW=>
 gL ZT λes2=>
 gN sW<|
 bd (uS (λm29=>Tn m29 λkey n=>
 bd (zI (.agg [.i .i64 F,.i .i64 T])) λaY=>
 gI .i64 aY λll=>
 aR (decide (ll<=n)) (
 some (.inr (1,[.s key,.b true]))) (
 some (.inl ()))) (
 some (6,[])) es2) λp4=>
 aR (sh p4.1 6) (
 gN p4.2<|
 some (.cM [.s x7,.b (decide (((-1):Int)<x6))])) (
 b5 (sh p4.1 1)<|
 oSB p4.2 λlm mB=>
 some (.cM [.s lm,.b mB]))
def FJ:GT:=bt 60 (eO qM) Lx
theorem Hs:SG FJ:=fnX Ly [] [] 70 [] [] [] [(7,[0,1,2,3,4,5,6,7])] [(13,⟨[2,6,7,11,13,35,36,37],[],[],[(0,[(48,.sc (.k .b))])],[]⟩)] [(14,⟨[2,6,7,13,35,36,37],[],[],[(0,[(11,.mp ⟨false,[.s],false⟩)])],[]⟩),(7,⟨[1,2,9,10,16,17,18],[],[],[(0,[(6,.sc (.k (.i .i64))),(7,.sc (.k .s))])],[]⟩)] [(17,⟨[2,6,7,11,56],[],[],[(1,[(4,.sc (.k .s)),(5,.sc (.k .b))]),(6,[])],[]⟩),(11,⟨[2,6,7,35,36],[],[(11,.mp ⟨false,[.s],false⟩),(37,.sc (.k (.i .i64)))],[(4,[(11,.mp ⟨false,[.s],false⟩)])],[]⟩),(3,⟨[1,2,16,17],[],[(6,.sc (.k (.i .i64))),(7,.sc (.k .s)),(18,.sc (.k (.i .i64)))],[(2,[(6,.sc (.k (.i .i64))),(7,.sc (.k .s))])],[]⟩)] [] Tryz.func60 (by kernel_rfl) (bG (λ_ _=>by kernel_rfl))
def yz (sA:MV):Option MV:=gA sA λcs=>
 oT cs λF T=>
 bd (jI (.agg [.i .i64 F,.i .i64 T]) (.raw (.complex .f64 4611686018427387904 4611686018427387904))) λrA=>
 gI .i64 rA λx=>
 some (.i .i64 x)
def Pm:GT:=bt 58 (iT yz) FJ
theorem NB:SG Pm:=ln Hs [] 5 [] [] [] Tryz.func58 (by kernel_rfl) (ct (λ_=>by kernel_rfl))
def vq (a a1:MV):Option MV:=gA a λcs=>
 oT cs λF T=>
 gA a1 λdu=>
 cL du λBy fP Has View Value Proof=>
 bd (
 bd (lj (.agg [.i .i64 F,.i .i64 T])) λrA=>
 gB rA λx=>
 aR (!x) (
 some [.b true]) (
 aR (decide (By<0)) (
 some [.b true]) (
 bd (th (.agg [.i .i64 F,.i .i64 T])) λaY=>
 gI .i64 aY λx1=>
 aR (decide (x1<=By)) (
 some [.b true]) (
 aR (decide (fP<1)) (
 some [.b true]) (
 some [.b (decide ((100000:Int)<fP))]))))) λvs=>
 gC vs λm8 rK=>
 gB m8 λx2=>
 gN rK<|
 aR x2 (
 some (.b false)) (
 bd (
 aR (!Has) (
 aR (!decide (View=0)) (
 some [.b true]) (
 some [.b (!decide (Value=([]:List UInt8)))])) (
 some [.b false])) λfO=>
 gC fO λm9 mX=>
 gB m9 λx3=>
 gN mX<|
 aR x3 (
 some (.b false)) (
 bd (
 aR Has (
 aR (decide (View<0)) (
 some [.b true]) (
 aR (decide (fP<=View)) (
 some [.b true]) (
 some [.b (decide ((6000:Int)<(Value.length:Int)))]))) (
 some [.b false])) λpP=>
 gC pP λEa mY=>
 gB Ea λx4=>
 gN mY<|
 aR x4 (
 some (.b false)) (
 bd (
 bB Proof λlen=>
 aR (decide ((len:Int)=0)) (
 some [.b true]) (
 bd (pD (.agg [.i .i64 F,.i .i64 T]) (.list Proof)) λbH=>
 gB bH λx5=>
 aR x5 (
 bd (oK (.agg (cD By fP Has View Value Proof))) λcr=>
 gI .i64 cr λx6=>
 some [.b (decide (x6<fP))]) (
 some [.b false]))) λRf=>
 gC Rf λFm vg=>
 gB Fm λx7=>
 gN vg<|
 some (.b x7))))
def Lz:GT:=bt 107 (eO vq) Pm
theorem LA:SG Lz:=pX NB [] [] 83 [] [] [] [(1,[0,1,2,3,4,5,6,7,8,9,10,11,12,13,14,15,16,17,18,19,20,21,22,23,24,25]),(7,[0,1,2,3,4,5,6,7,8,9,10,12,13,11,14,15,16,17])] [(7,⟨[2,3],[],[],[(0,[(4,.sc (.k .b))])],[]⟩),(5,⟨[2,3],[],[],[(0,[(45,.sc (.k .b))])],[]⟩),(3,⟨[2,3],[],[],[(0,[(31,.sc (.k .b))])],[]⟩),(1,⟨[2,3],[],[],[(0,[(5,.sc (.k .b))])],[]⟩)] [] [] [] Tryz.func107 (by kernel_rfl) (bG (λ_ _=>by kernel_rfl))
def tX (sA view lA:MV):Option MV:=gA sA λcs=>
 oT cs λF T=>
 gI .i64 view λdZ=>
 gL lA λBm=>
 bd (
 bd (lj (.agg [.i .i64 F,.i .i64 T])) λrA=>
 gB rA λx=>
 aR (!x) (
 some [.b true]) (
 bB Bm λlen=>
 bd (yz (.agg [.i .i64 F,.i .i64 T])) λaY=>
 gI .i64 aY λx1=>
 some [.b (!decide ((len:Int)=x1))])) λvs=>
 gC vs λm2 jW=>
 gB m2 λx2=>
 gN jW<|
 aR x2 (
 some (.b false)) (
 bB Bm λdk=>
 bd (Loop (λrI=>
 oT rI λlast x3=>
 aR (decide (x3<(dk:Int))) (
 idx Bm x3 λy=>
 gA y λdu=>
 cL du λBy fP Has View Value Proof=>
 bd (
 bd (vq (.agg [.i .i64 F,.i .i64 T]) (.agg (cD By fP Has View Value Proof))) λbH=>
 gB bH λx4=>
 aR (!x4) (
 some [.b true]) (
 aR (!decide (fP=dZ)) (
 some [.b true]) (
 some [.b (decide (By<=last))]))) λfO=>
 gC fO λFm gq=>
 gB Fm λx5=>
 gN gq<|
 aR x5 (
 some (.inr (1,[.b false]))) (
 some (.inl [.i .i64 By,.i .i64 (fj .i64 (x3+1))]))) (
 some (.inr (2,[])))) [.i .i64 (-1),.i .i64 0]) λp=>
 aR (sh p.1 2) (
 gN p.2<|
 some (.b true)) (
 b5 (sh p.1 1)<|
 gC p.2 λvW jJ=>
 gB vW λx6=>
 gN jJ<|
 some (.b x6)))
def FK:GT:=bt 153 (uU tX) Lz
theorem Ht:SG FK:=ln LA [] 45 [(7,⟨[1,3,7,9,20,21,22],[],[],[(0,[(41,.sc (.k .b))])],[]⟩),(1,⟨[1,2,3],[],[],[(0,[(19,.sc (.k .b))])],[]⟩)] [] [(5,⟨[1,3,20,21],[],[(7,.sc (.k (.i .i64))),(22,.sc (.k (.i .i64)))],[(1,[(6,.sc (.k .b))]),(2,[])],[]⟩)] Tryz.func153 (by kernel_rfl) (gQ (λ_ _ _=>by kernel_rfl))
def qO (sA view lA value:MV):Option MV:=gA sA λcs=>
 oT cs λF T=>
 gI .i64 view λdZ=>
 gL lA λBm=>
 gS value λfT=>
 bd (tX (.agg [.i .i64 F,.i .i64 T]) (.i .i64 dZ) (.list Bm)) λrA=>
 gB rA λx=>
 aR (!x) (
 some (.b false)) (
 bd (qM (.agg [.i .i64 F,.i .i64 T]) (.list Bm)) λaY=>
 gT aY λvs=>
 oSB vs λx1 x2=>
 bd (
 aR (!x2) (
 some [.b true]) (
 some [.b (decide (x1=fT))])) λfO=>
 gC fO λm4 qD=>
 gB m4 λx3=>
 gN qD<|
 some (.b x3))
def Bn:GT:=bt 96 (Hg qO) FK
theorem Ef:SG Bn:=ln Ht [] 29 [(4,⟨[3,9,10],[],[],[(0,[(8,.sc (.k .b))])],[]⟩)] [] [] Tryz.func96 (by kernel_rfl) (qj (λ_ _ _ _=>by kernel_rfl))
def nF (a view value jE:MV):Option MV:=gA a λcs=>
 cJ cs λSF ST Me View Has At Value Proof cQ=>
 gI .i64 view λdZ=>
 gS value λfT=>
 gL jE λPn=>
 bd (
 aR (!decide (dZ=View)) (
 some [.b true]) (
 aR Has (
 aR (decide (At=dZ)) (
 some [.b true]) (
 some [.b (decide ((6000:Int)<(fT.length:Int)))])) (
 some [.b (decide ((6000:Int)<(fT.length:Int)))]))) λvs=>
 gC vs λm9 mX=>
 gB m9 λx=>
 gN mX<|
 aR x (
 some (.cM [.agg (br SF ST Me View Has At Value Proof cQ),.agg [.i .i64 0,.i .i64 0,.s ([]:List UInt8)],.b false])) (
 bd (
 aR (decide (dZ=0)) (
 bB Pn λlen=>
 some [.b (decide ((len:Int)=0))]) (
 some [.b false])) λfO=>
 gC fO λEa mY=>
 gB Ea λx1=>
 gN mY<|
 bd (
 aR x1 (
 some (0,[.i .i64 0,.i .i64 0,.i .i64 0,.i .i64 0,.b false,.i .i64 0,.s ([]:List UInt8),.list ([]:List MV),.list ([]:List MV),.i .i64 0,.i .i64 0,.s ([]:List UInt8)])) (
 bd (qO (.agg [.i .i64 SF,.i .i64 ST]) (.i .i64 dZ) (.list Pn) (.s fT)) λrA=>
 gB rA λx2=>
 aR (!x2) (
 some (1,[.i .i64 SF,.i .i64 ST,.i .i64 Me,.i .i64 View,.b Has,.i .i64 At,.s Value,.list Proof,.list cQ,.i .i64 0,.i .i64 0,.s ([]:List UInt8),.b false])) (
 some (0,[.i .i64 0,.i .i64 0,.i .i64 0,.i .i64 0,.b false,.i .i64 0,.s ([]:List UInt8),.list ([]:List MV),.list ([]:List MV),.i .i64 0,.i .i64 0,.s ([]:List UInt8)])))) λp=>
 aR (sh p.1 1) (
 gC p.2 λFm vg=>
 gI .i64 Fm λx3=>
 gC vg λvW gq=>
 gI .i64 vW λx4=>
 gC gq λCL jJ=>
 gI .i64 CL λx5=>
 gC jJ λBj ox=>
 gI .i64 Bj λx6=>
 gC ox λCM lD=>
 gB CM λx7=>
 gC lD λK4 qN=>
 gI .i64 K4 λx8=>
 gC qN λBk na=>
 gS Bk λx9=>
 gC na λHi jK=>
 gL Hi λll=>
 gC jK λNt mZ=>
 gL Nt λlm=>
 gC mZ λK5 kE=>
 gI .i64 K5 λmB=>
 Hk kE λlN nB pQ=>
 some (.cM [.agg (br x3 x4 x5 x6 x7 x8 x9 ll lm),.agg [.i .i64 mB,.i .i64 lN,.s nB],.b pQ])) (
 b5 (sh p.1 0)<|
 gC p.2 λWr FL=>
 gI .i64 Wr λrh=>
 gC FL λm25 TB=>
 gI .i64 m25 λpa=>
 gC TB λTu FM=>
 gI .i64 Tu λyT=>
 gC FM λm27 Fs=>
 gI .i64 m27 λEb=>
 gC Fs λZT Ft=>
 gB ZT λGS=>
 gC Ft λm29 Fu=>
 gI .i64 m29 λHj=>
 gC Fu λWs sW=>
 gS Ws λFo=>
 gC sW λm31 Ls=>
 gL m31 λI4=>
 gC Ls λm32 adJ=>
 gL m32 λJy=>
 eJ adJ λI5 I6 I7=>
 some (.cM [.agg (br SF ST Me View true dZ fT Proof cQ),.agg [.i .i64 Me,.i .i64 dZ,.s fT],.b true])))
def yA:GT:=bt 43 (Hg nF) Bn
theorem Bo:SG yA:=pX Ef [] [] 62 [] [58] [(7,[4])] [(7,[0,1,2,3,4,5,6,7,8])] [(3,⟨[1,2,3,4,8,9],[],[],[(0,[(33,.sc (.k .b))])],[]⟩),(1,⟨[1,2,3,4,8,9],[],[],[(0,[(11,.sc (.k .b))])],[]⟩)] [(4,⟨[1,2,3,4],[],[],[(0,[(8,.box [.k (.i .i64),.k (.i .i64),.k (.i .i64),.k (.i .i64),.k .b,.k (.i .i64),.k .s,.k .l,.k .l]),(9,.box [.k (.i .i64),.k (.i .i64),.k .s])]),(1,[(8,.box [.k (.i .i64),.k (.i .i64),.k (.i .i64),.k (.i .i64),.k .b,.k (.i .i64),.k .s,.k .l,.k .l]),(9,.box [.k (.i .i64),.k (.i .i64),.k .s]),(10,.sc (.k .b))])],[]⟩)] [] [] Tryz.func43 (by kernel_rfl) (qj (λ_ _ _ _=>by kernel_rfl))
def qP (x:MV):Option MV:=gI .i64 x λx1=>some (.b (!decide (x1=x1)))
def FN:GT:=bt 162 (iT qP) yA
theorem Hu:SG FN:=ln Bo [] 6 [] [] [] Tryz.func162 (by kernel_rfl) (ct (λ_=>by kernel_rfl))
def nd (x y:MV):Option MV:=gI .i64 x λx1=>
 gI .i64 y λy1=>
 bd (qP (.i .i64 x1)) λrA=>
 gB rA λx2=>
 bd (qP (.i .i64 y1)) λaY=>
 gB aY λx3=>
 aR x2 (
 aR x3 (
 some (.i .i64 0)) (
 some (.i .i64 (-1)))) (
 aR x3 (
 some (.i .i64 1)) (
 aR (decide (x1<y1)) (
 some (.i .i64 (-1))) (
 aR (decide (y1<x1)) (
 some (.i .i64 1)) (
 some (.i .i64 0)))))
def Bp:GT:=bt 106 (eO nd) FN
theorem Eg:SG Bp:=ln Hu [] 20 [] [] [] Tryz.func106 (by kernel_rfl) (bG (λ_ _=>by kernel_rfl))
def wS (x nA:MV):Option MV:=gA x λcs=>
 eJ cs λBy View Value=>
 gI .i64 nA λEh=>
 bd (nd (.i .i64 By) (.i .i64 Eh)) λrA=>
 gI .i64 rA λx1=>
 some (.i .i64 x1)
def Bq:GT:=bt 155 (eO wS) Bp
theorem Jg:SG Bq:=ln Eg [] 9 [] [] [] Tryz.func155 (by kernel_rfl) (bG (λ_ _=>by kernel_rfl))
def dx:GT:=Bq
theorem jX (x0 x1:MV):dx 155 [x0,x1]=wS x0 x1:=by kernel_rfl
def dN (x target cmp:MV):Option MV:=gL x λx1=>
 gI .i64 target λFO=>
 gR cmp λadK=>
 bB x1 λlen=>
 bd (Loop (λqC=>
 oT qC λi j=>
 aR (decide (i<j)) (
 b5 (decide ((0:Int)<=1))<|
 idx x1 (fj .i64 (OF (fj .u64 (fj .i64 (i+j))) (2^min (AI 1) (IS .u64)))) λy=>
 gA y λcs=>
 eJ cs λBy View Value=>
 Xs adK λfn cap=>
 b5 (!gv fn)<|
 bd (dx fn ([.agg [.i .i64 By,.i .i64 View,.s Value],.i .i64 FO]++cap)) λrA=>
 gI .i64 rA λx2=>
 bd (
 aR (decide (x2<0)) (
 some (0,[.i .i64 (fj .i64 ((fj .i64 (OF (fj .u64 (fj .i64 (i+j))) (2^min (AI 1) (IS .u64))))+1)),.i .i64 j])) (
 some (0,[.i .i64 i,.i .i64 (fj .i64 (OF (fj .u64 (fj .i64 (i+j))) (2^min (AI 1) (IS .u64))))]))) λp1=>
 b5 (sh p1.1 0)<|
 oII .i64 .i64 p1.2 λi1 j1=>
 some (.inl [.i .i64 i1,.i .i64 j1])) (
 some (.inr (2,[.i .i64 i])))) [.i .i64 0,.i .i64 (len:Int)]) λp=>
 b5 (sh p.1 2)<|
 gC p.2 λm7 rK=>
 gI .i64 m7 λi2=>
 gN rK<|
 bd (
 aR (decide (i2<(len:Int))) (
 idx x1 i2 λy1=>
 gA y1 λdu=>
 eJ du λvj b7 bc=>
 Xs adK λCg sZ=>
 b5 (!gv Cg)<|
 bd (dx Cg ([.agg [.i .i64 vj,.i .i64 b7,.s bc],.i .i64 FO]++sZ)) λaY=>
 gI .i64 aY λx3=>
 some [.i .i64 i2,.b (decide (x3=0))]) (
 some [.i .i64 i2,.b false])) λvs=>
 gC vs λFm gq=>
 gI .i64 Fm λx4=>
 gC gq λvW jJ=>
 gB vW λx5=>
 gN jJ<|
 some (.cM [.i .i64 x4,.b x5])
def iQ:GT:=bt 154 (uU dN) Bq
theorem mD:SG iQ:=ln Jg [] 49 [(8,⟨[0,1,2,8,9],[],[],[(0,[(6,.sc (.k (.i .i64))),(7,.sc (.k .b))])],[]⟩)] [(6,⟨[0,1,2,8,11],[],[],[(0,[(9,.sc (.k (.i .i64))),(10,.sc (.k (.i .i64)))])],[]⟩)] [(3,⟨[0,1,2,8],[],[(9,.sc (.k (.i .i64))),(10,.sc (.k (.i .i64)))],[(2,[(9,.sc (.k (.i .i64)))])],[]⟩)] Tryz.func154 (by kernel_rfl) (gQ (λ_ _ _=>by kernel_rfl))
def rM (t a:MV):Option MV:=gA t λcs=>
 gC cs λm qC=>
 gL m λL=>
 gN qC<|
 gA a λdu=>
 eJ du λBy View Value=>
 bd (nC (.agg [.i .i64 By,.i .i64 View,.s Value])) λrA=>
 gB rA λx=>
 aR (!x) (
 some (.cM [.agg [.list L],.b false])) (
 bd (dN (.list L) (.i .i64 By) (.func 155 [])) λaY=>
 gT aY λvs=>
 gC vs λm4 qD=>
 gI .i64 m4 λx1=>
 gC qD λm5 Ec=>
 gB m5 λx2=>
 gN Ec<|
 bd (
 aR x2 (
 idx L x1 λy=>
 gA y λiM=>
 eJ iM λvj b7 bc=>
 some [.b (decide (View<=b7))]) (
 some [.b false])) λfO=>
 gC fO λm9 mX=>
 gB m9 λx3=>
 gN mX<|
 aR x3 (
 some (.cM [.agg [.list L],.b false])) (
 bd (jT 3 32 [.list L]) λbH=>
 gF bH λxs=>
 bd (
 aR x2 (
 idx xs x1 λy1=>
 gA y1 λnn=>
 eJ nn λSh j7 dG=>
 some (0,[.list (xs.set (AI x1) (.agg [.i .i64 By,.i .i64 View,.s Value]))])) (
 bd (qi 32 [.fresh xs,.i .i64 x1,.fresh ([.agg [.i .i64 By,.i .i64 View,.s Value]]:List MV)]) λcr=>
 gF cr λAG=>
 some (0,[.list AG]))) λp=>
 b5 (sh p.1 0)<|
 gC p.2 λCL jJ=>
 gL CL λlA=>
 gN jJ<|
 some (.cM [.agg [.list lA],.b true])))
def Po:GT:=bt 97 (eO rM) iQ
theorem NC:SG Po:=pX mD [] [] 49 [] [] [] [(4,[0,1,2,3,4,5,6,7,8,9,10,11])] [(4,⟨[2,3,4,6,7],[],[],[(0,[(32,.sc (.k .b))])],[45,46]⟩)] [(8,⟨[3,4,6],[],[],[(0,[(8,.sc (.own 36 58 false))])],[45,46]⟩)] [] [] Tryz.func97 (by kernel_rfl) (bG (λ_ _=>by kernel_rfl))
def pf (a a1:MV):Option MV:=gA a λcs=>
 gC cs λm qC=>
 gL m λL=>
 gN qC<|
 gI .i64 a1 λez=>
 bB L λlen=>
 bd (Loop (λlY=>
 Dk lY λes x=>
 aR (decide (x<(len:Int))) (
 idx L x λy=>
 gA y λdu=>
 eJ du λBy View Value=>
 b5 (decide ((0:Int)<=(df es ([.i .i64 View,.s Value]:List MV):Int)/\AI (df es ([.i .i64 View,.s Value]:List MV):Int)<(nU es ([.i .i64 View,.s Value]:List MV) (.i .i64 0)).length))<|
 some (.inl [.list (uI (nU es ([.i .i64 View,.s Value]:List MV) (.i .i64 0)) (AI (df es ([.i .i64 View,.s Value]:List MV):Int)) (.i .i64 (fj .i64 ((oc es ([.i .i64 View,.s Value]:List MV))+1)))),.i .i64 (fj .i64 (x+1))])) (
 some (.inr (2,[.list es])))) [.list ([]:List MV),.i .i64 0]) λp=>
 b5 (sh p.1 2)<|
 gC p.2 λm6 rJ=>
 gL m6 λes1=>
 gN rJ<|
 bB L λdk=>
 bd (Loop (λrK=>
 gC rK λm7 mX=>
 gI .i64 m7 λx1=>
 gC mX λm8 mY=>
 gS m8 λx2=>
 gC mY λm9 vg=>
 gB m9 λx3=>
 gC vg λEa gq=>
 gI .i64 Ea λx4=>
 gN gq<|
 aR (decide (x4<(dk:Int))) (
 idx L x4 λy1=>
 gA y1 λiM=>
 eJ iM λvj b7 bc=>
 bd (
 aR (decide ((1:Int)<=ez)) (
 aR (decide (ez<=(oc es1 ([.i .i64 b7,.s bc]:List MV)))) (
 some [.b (decide (x1<b7))]) (
 some [.b false])) (
 some [.b false])) λvs=>
 gC vs λBj qN=>
 gB Bj λx5=>
 gN qN<|
 bd (
 aR x5 (
 some (0,[.i .i64 b7,.s bc,.b true])) (
 some (0,[.i .i64 x1,.s x2,.b x3]))) λp2=>
 b5 (sh p2.1 0)<|
 ahp .i64 p2.2 λx6 x7 x8=>
 some (.inl [.i .i64 x6,.s x7,.b x8,.i .i64 (fj .i64 (x4+1))])) (
 some (.inr (4,[.i .i64 x1,.s x2,.b x3])))) [.i .i64 (-1),.s ([]:List UInt8),.b false,.i .i64 0]) λp1=>
 b5 (sh p1.1 4)<|
 ahp .i64 p1.2 λx9 ll lm=>
 aR (!lm) (
 some (.cM [.i .i64 0,.s ([]:List UInt8),.b false])) (
 some (.cM [.i .i64 x9,.s ll,.b true]))
def LB:GT:=bt 158 (eO pf) Po
theorem LC:SG LB:=pX NC [] [] 71 [] [] [] [(5,[0,1,2,3,4,5,6,7,8,9,10]),(17,[0,1,2,3,4,5,6])] [(12,⟨[1,7,10,11,14,36,37,38],[],[],[(0,[(62,.sc (.k .b))])],[]⟩)] [(13,⟨[1,7,14,36,37,38],[],[],[(0,[(10,.box [.k (.i .i64),.k .s]),(11,.sc (.k .b))])],[]⟩)] [(9,⟨[1,7,36,37],[],[(10,.box [.k (.i .i64),.k .s]),(11,.sc (.k .b)),(38,.sc (.k (.i .i64)))],[(4,[(10,.box [.k (.i .i64),.k .s]),(11,.sc (.k .b))])],[]⟩),(3,⟨[1,2,17,18],[],[(7,.mp ⟨true,[.i .i64,.s],false⟩),(19,.sc (.k (.i .i64)))],[(2,[(7,.mp ⟨true,[.i .i64,.s],false⟩)])],[]⟩)] [] Tryz.func158 (by kernel_rfl) (bG (λ_ _=>by kernel_rfl))
def zJ (sA t:MV):Option MV:=gA sA λcs=>
 oT cs λF T=>
 gA t λdu=>
 gC du λm2 jW=>
 gL m2 λL=>
 gN jW<|
 bd (pe (.agg [.i .i64 F,.i .i64 T])) λrA=>
 gI .i64 rA λx=>
 bd (pf (.agg [.list L]) (.i .i64 x)) λaY=>
 gT aY λvs=>
 Hk vs λx1 x2 x3=>
 aR (!x3) (
 some (.cM [.list ([]:List MV),.b false])) (
 bd (qG (.agg [.list L]) (.i .i64 x1) (.s x2)) λbH=>
 gL bH λx4=>
 bd (pe (.agg [.i .i64 F,.i .i64 T])) λcr=>
 gI .i64 cr λx5=>
 bB x4 λlen=>
 b5 (decide ((0:Int)<=0/\(0:Int)<=x5/\x5<=(len:Int)))<|
 some (.cM [.list (BY (AI 0) (IN (AI x5) x4)),.b true]))
def LD:GT:=bt 98 (eO zJ) LB
theorem LF:SG LD:=pX LC [] [] 26 [] [] [] [(1,[0,1,2,3,4,5,6,7,8,9,10]),(4,[0,1,2,4,3,5,6,7,8])] [] [] [] [] Tryz.func98 (by kernel_rfl) (bG (λ_ _=>by kernel_rfl))
def si (a a1:MV):Option MV:=gA a λcs=>
 cJ cs λSF ST Me View Has At Value Proof cQ=>
 gA a1 λdu=>
 eJ du λBy b7 bc=>
 bd (
 bd (th (.agg [.i .i64 SF,.i .i64 ST])) λrA=>
 gI .i64 rA λx=>
 aR (decide (x<=By)) (
 some [.b true]) (
 some [.b (!decide (b7=View))])) λvs=>
 gC vs λvW gq=>
 gB vW λx1=>
 gN gq<|
 aR x1 (
 some (.cM [.agg (br SF ST Me View Has At Value Proof cQ),.list ([]:List MV),.b false])) (
 bd (rM (.agg [.list cQ]) (.agg [.i .i64 By,.i .i64 b7,.s bc])) λaY=>
 gT aY λfO=>
 gC fO λCL jJ=>
 gA CL λiM=>
 gC iM λBj ox=>
 gL Bj λL=>
 gN ox<|
 gC jJ λCM lD=>
 gB CM λx2=>
 gN lD<|
 bd (zJ (.agg [.i .i64 SF,.i .i64 ST]) (.agg [.list L])) λbH=>
 gT bH λpP=>
 oLB pP λx3 x4=>
 bd (vm (.list Proof)) λcr=>
 gT cr λRf=>
 Hk Rf λx5 x6 x7=>
 bd (
 bd (nC (.agg [.i .i64 By,.i .i64 b7,.s bc])) λeU=>
 gB eU λx8=>
 aR (!x8) (
 some [.b true]) (
 aR (!x4) (
 some [.b true]) (
 some [.b (decide (View<=x5))]))) λvs4=>
 gC vs4 λm21 vf=>
 gB m21 λx9=>
 gN vf<|
 aR x9 (
 some (.cM [.agg (br SF ST Me View Has At Value Proof L),.list ([]:List MV),.b false])) (
 some (.cM [.agg (br SF ST Me View Has At Value x3 L),.list x3,.b true])))
def Dt:GT:=bt 44 (eO si) LD
theorem FP:SG Dt:=pX LF [] [] 67 [] [] [] [(1,[0,1,2,3,4,5,6,7,8,9,10,11,12])] [(6,⟨[2,3,4,7,8,9],[],[],[(0,[(61,.sc (.k .b))])],[]⟩),(1,⟨[2,3,4],[],[],[(0,[(24,.sc (.k .b))])],[]⟩)] [] [] [] Tryz.func44 (by kernel_rfl) (bG (λ_ _=>by kernel_rfl))
def Ch (sA:MV):Option MV:=gA sA λcs=>
 oT cs λF T=>
 bd (jI (.agg [.i .i64 F,.i .i64 T]) (.raw (.complex .f64 4613937818241073152 4607182418800017408))) λrA=>
 gI .i64 rA λx=>
 some (.i .i64 x)
def ur:GT:=bt 28 (iT Ch) Dt
theorem ND:SG ur:=ln FP [] 5 [] [] [] Tryz.func28 (by kernel_rfl) (ct (λ_=>by kernel_rfl))
def qQ:Ctx:=Sg ur [(1,1002001)] 54 [] [] [] [(1,[0,1,2,3,4,5,6,7,8,9,10,11,12,13,14,15,16,17,18,19]),(3,[0,1,2,3,4,5,6,7,8,9,10])] [(1,⟨[1,3,4,6,1002001],[],[],[(0,[(32,.sc (.k .b))])],[]⟩)] [] [] []
def gu (lA:MV)(t:List MV)(a:MV)(bY:MV):Option MV:=gA lA λcs=>
 di cs λSF ST cw cn fS bE Value=>
 gA a λdu=>
 eJ du λBy View bc=>
 gI .i64 bY λDu=>
 di t λs8 s9 cT cU fV kT dG=>
 bd (
 aR bE (
 some [.b true]) (
 aR (decide (By<0)) (
 some [.b true]) (
 bd (th (.agg [.i .i64 SF,.i .i64 ST])) λrA=>
 gI .i64 rA λx=>
 aR (decide (x<=By)) (
 some [.b true]) (
 bd (nC (.agg [.i .i64 By,.i .i64 View,.s bc])) λaY=>
 gB aY λx1=>
 some [.b (!x1)])))) λvs=>
 gC vs λBk na=>
 gB Bk λx2=>
 gN na<|
 aR x2 (
 some (.gm (.cM [.b false,.s ([]:List UInt8)]) (bJ s8 s9 cT cU fV kT dG))) (
 bd (rM (.agg [.list cT]) (.agg [.i .i64 By,.i .i64 View,.s bc])) λbH=>
 gT bH λfO=>
 gC fO λHi jK=>
 gA Hi λiM=>
 gC iM λNt mZ=>
 gL Nt λL=>
 gN mZ<|
 gC jK λK5 kE=>
 gB K5 λx3=>
 gN kE<|
 bd (pf (.agg [.list L]) (.i .i64 Du)) λcr=>
 gT cr λpP=>
 Hk pP λx4 x5 x6=>
 some (.gm (.cM [.b x6,.s x5]) (bJ s8 s9 L cU fV kT dG)))
theorem xz (lA:MV)(t:List MV)(a:MV)(bY:MV):EH qQ [] 1 O9 Tryz.f101 [lA,.cell (.func 2 t),a,bY]=gu lA t a bY:=by kernel_rfl
def qR:Ctx:=Sg ur [(1,1003001)] 54 [] [] [] [(1,[0,1,2,3,4,5,6,7,8,9,10,11,12,13,14,15,16,17,18,19]),(3,[0,1,2,3,4,5,6,7,8,9,10])] [(1,⟨[1,3,4,6,1003001],[],[],[(0,[(32,.sc (.k .b))])],[]⟩)] [] [] []
def gw (lA:MV)(t:List MV)(a:MV)(bY:MV):Option MV:=gA lA λcs=>
 di cs λSF ST cw cn fS bE Value=>
 gA a λdu=>
 eJ du λBy View bc=>
 gI .i64 bY λDu=>
 di t λs8 s9 cT cU fV kT dG=>
 bd (
 aR bE (
 some [.b true]) (
 aR (decide (By<0)) (
 some [.b true]) (
 bd (th (.agg [.i .i64 SF,.i .i64 ST])) λrA=>
 gI .i64 rA λx=>
 aR (decide (x<=By)) (
 some [.b true]) (
 bd (nC (.agg [.i .i64 By,.i .i64 View,.s bc])) λaY=>
 gB aY λx1=>
 some [.b (!x1)])))) λvs=>
 gC vs λBk na=>
 gB Bk λx2=>
 gN na<|
 aR x2 (
 some (.gm (.cM [.b false,.s ([]:List UInt8)]) (bJ s8 s9 cT cU fV kT dG))) (
 bd (rM (.agg [.list cU]) (.agg [.i .i64 By,.i .i64 View,.s bc])) λbH=>
 gT bH λfO=>
 gC fO λHi jK=>
 gA Hi λiM=>
 gC iM λNt mZ=>
 gL Nt λL=>
 gN mZ<|
 gC jK λK5 kE=>
 gB K5 λx3=>
 gN kE<|
 bd (pf (.agg [.list L]) (.i .i64 Du)) λcr=>
 gT cr λpP=>
 Hk pP λx4 x5 x6=>
 some (.gm (.cM [.b x6,.s x5]) (bJ s8 s9 cT L fV kT dG)))
theorem xA (lA:MV)(t:List MV)(a:MV)(bY:MV):EH qR [] 1 O9 Tryz.f101 [lA,.cell (.func 3 t),a,bY]=gw lA t a bY:=by kernel_rfl
def qS:Ctx:=Sg ur [(1,1004001)] 54 [] [] [] [(1,[0,1,2,3,4,5,6,7,8,9,10,11,12,13,14,15,16,17,18,19]),(3,[0,1,2,3,4,5,6,7,8,9,10])] [(1,⟨[1,3,4,6,1004001],[],[],[(0,[(32,.sc (.k .b))])],[]⟩)] [] [] []
def gx (lA:MV)(t:List MV)(a:MV)(bY:MV):Option MV:=gA lA λcs=>
 di cs λSF ST cw cn fS bE Value=>
 gA a λdu=>
 eJ du λBy View bc=>
 gI .i64 bY λDu=>
 di t λs8 s9 cT cU fV kT dG=>
 bd (
 aR bE (
 some [.b true]) (
 aR (decide (By<0)) (
 some [.b true]) (
 bd (th (.agg [.i .i64 SF,.i .i64 ST])) λrA=>
 gI .i64 rA λx=>
 aR (decide (x<=By)) (
 some [.b true]) (
 bd (nC (.agg [.i .i64 By,.i .i64 View,.s bc])) λaY=>
 gB aY λx1=>
 some [.b (!x1)])))) λvs=>
 gC vs λBk na=>
 gB Bk λx2=>
 gN na<|
 aR x2 (
 some (.gm (.cM [.b false,.s ([]:List UInt8)]) (bJ s8 s9 cT cU fV kT dG))) (
 bd (rM (.agg [.list fV]) (.agg [.i .i64 By,.i .i64 View,.s bc])) λbH=>
 gT bH λfO=>
 gC fO λHi jK=>
 gA Hi λiM=>
 gC iM λNt mZ=>
 gL Nt λL=>
 gN mZ<|
 gC jK λK5 kE=>
 gB K5 λx3=>
 gN kE<|
 bd (pf (.agg [.list L]) (.i .i64 Du)) λcr=>
 gT cr λpP=>
 Hk pP λx4 x5 x6=>
 some (.gm (.cM [.b x6,.s x5]) (bJ s8 s9 cT cU L kT dG)))
theorem xB (lA:MV)(t:List MV)(a:MV)(bY:MV):EH qS [] 1 O9 Tryz.f101 [lA,.cell (.func 4 t),a,bY]=gx lA t a bY:=by kernel_rfl
abbrev ng:List MV->Option MV:=λms=>match ms with|[a0,.cell (.func off a1),a2,a3]=>(match sh off 2 with|true=>gu a0 a1 a2 a3|false=>(match sh off 3 with|true=>gw a0 a1 a2 a3|false=>(match sh off 4 with|true=>gx a0 a1 a2 a3|false=>none)))|_=>none
theorem yB {ms:List MV}{r:MV}(h:ng ms=some r): ∃c':Ctx,CK cx c'/\c'.g=ur/\Th c' 101 Tryz.f101 []=true/\EH c' [] 1 O9 Tryz.f101 ms=some r:=by
 unfold ng at h;split at h
 ·rename_i a0 off a1 a2 a3;cases dr:sh off 2 with
  |true=>have:=AT dr;subst this;exact ⟨qQ,⟨rfl,rfl,rfl,rfl,rfl,rfl,rfl,rfl,rfl⟩,rfl,by kernel_rfl,(xz _ _ _ _).trans h⟩
  |false=>
  rw [dr] at h;simp only at h;cases VL:sh off 3 with
  |true=>have:=AT VL;subst this;exact ⟨qR,⟨rfl,rfl,rfl,rfl,rfl,rfl,rfl,rfl,rfl⟩,rfl,by kernel_rfl,(xA _ _ _ _).trans h⟩
  |false=>
  rw [VL] at h;simp only at h;cases ho4:sh off 4 with
  |true=>have:=AT ho4;subst this;exact ⟨qS,⟨rfl,rfl,rfl,rfl,rfl,rfl,rfl,rfl,rfl⟩,rfl,by kernel_rfl,(xB _ _ _ _).trans h⟩
  |false=>
  rw [ho4] at h;simp only at h;cases h
 ·cases h
def s4:GT:=bt 101 ng ur
theorem xC:SG s4:=ND.fnC (pos:=1) (ks:=O9) (dI:=[]) rH O5 O7 Ty Bi Fp Tryz.func101 (by kernel_rfl) (λ_=>rfl) yB
def nG (lA a:MV):Option MV:=gA lA λcs=>
 di cs λSF ST cw cn fS bE Value=>
 gA a λdu=>
 eJ du λBy View bc=>
 bd (Ch (.agg [.i .i64 SF,.i .i64 ST])) λrA=>
 gI .i64 rA λx=>
 bd (gu (.agg (bJ SF ST cw cn fS bE Value)) (bJ SF ST cw cn fS bE Value) (.agg [.i .i64 By,.i .i64 View,.s bc]) (.i .i64 x)) λaY=>
 gW aY λx1 ls=>
 di ls λs8 s9 cT cU fV kT dG=>
 gT x1 λvs=>
 gC vs λBk na=>
 gB Bk λx2=>
 gC na λHi jK=>
 gS Hi λx3=>
 gN jK<|
 bd (
 aR x2 (
 some (0,(bJ s8 s9 cT cU fV true x3))) (
 some (0,(bJ s8 s9 cT cU fV kT dG)))) λp=>
 b5 (sh p.1 0)<|
 yu .i64 .i64 p.2 λBm lA2 lA3 lA4 lA5 lA6 lA7=>
 some (.agg (bJ Bm lA2 lA3 lA4 lA5 lA6 lA7))
def yC:GT:=bt 45 (eO nG) s4
theorem Br:SG yC:=pX xC [] [] 22 [] [] [] [(1,[0,1,2,3,4,5,6,7,8,9,10,11])] [] [(3,⟨[4,6],[],[],[(0,[(2,.box [.k (.i .i64),.k (.i .i64),.k .l,.k .l,.k .l,.k .b,.k .s])])],[]⟩)] [] [] Tryz.func45 (by kernel_rfl) (bG (λ_ _=>by kernel_rfl))
def mr (lA nA p:MV):Option MV:=gA lA λcs=>
 di cs λSF ST cw cn fS bE Value=>
 gI .i64 nA λEh=>
 gL p λp1=>
 bd (pD (.agg [.i .i64 SF,.i .i64 ST]) (.list p1)) λrA=>
 gB rA λx=>
 aR (!x) (
 some (.agg (bJ SF ST cw cn fS bE Value))) (
 bd (vm (.list p1)) λaY=>
 gT aY λvs=>
 Hk vs λx1 x2 x3=>
 bd (pe (.agg [.i .i64 SF,.i .i64 ST])) λbH=>
 gI .i64 bH λx4=>
 bd (gw (.agg (bJ SF ST cw cn fS bE Value)) (bJ SF ST cw cn fS bE Value) (.agg [.i .i64 Eh,.i .i64 x1,.s x2]) (.i .i64 x4)) λcr=>
 gW cr λx5 ls=>
 di ls λs8 s9 cT cU fV kT bc=>
 gT x5 λfO=>
 gC fO λBk na=>
 gB Bk λx6=>
 gC na λHi jK=>
 gS Hi λx7=>
 gN jK<|
 bd (
 aR x6 (
 some (0,(bJ s8 s9 cT cU fV true x7))) (
 some (0,(bJ s8 s9 cT cU fV kT bc)))) λp2=>
 b5 (sh p2.1 0)<|
 yu .i64 .i64 p2.2 λBm lA2 lA3 lA4 lA5 lA6 lA7=>
 some (.agg (bJ Bm lA2 lA3 lA4 lA5 lA6 lA7)))
def wT:GT:=bt 46 (uU mr) yC
theorem Av:SG wT:=pX Br [] [] 42 [] [] [] [(4,[0,1,2,3,4,5,6,7,8,9,10,11,12,13,14])] [] [(6,⟨[6,11],[],[],[(0,[(3,.box [.k (.i .i64),.k (.i .i64),.k .l,.k .l,.k .l,.k .b,.k .s])])],[]⟩)] [] [] Tryz.func46 (by kernel_rfl) (gQ (λ_ _ _=>by kernel_rfl))
def oW (x nA:MV):Option MV:=gA x λcs=>
 cL cs λBy fP Has View Value Proof=>
 gI .i64 nA λEh=>
 bd (nd (.i .i64 By) (.i .i64 Eh)) λrA=>
 gI .i64 rA λx1=>
 some (.i .i64 x1)
def tj:GT:=bt 105 (eO oW) wT
theorem CP:SG tj:=ln Av [] 9 [] [] [] Tryz.func105 (by kernel_rfl) (bG (λ_ _=>by kernel_rfl))
def dy:GT:=tj
theorem iX (x0 x1:MV):dy 105 [x0,x1]=oW x0 x1:=by kernel_rfl
def dO (x target cmp:MV):Option MV:=gL x λx1=>
 gI .i64 target λFO=>
 gR cmp λadK=>
 bB x1 λlen=>
 bd (Loop (λqC=>
 oT qC λi j=>
 aR (decide (i<j)) (
 b5 (decide ((0:Int)<=1))<|
 idx x1 (fj .i64 (OF (fj .u64 (fj .i64 (i+j))) (2^min (AI 1) (IS .u64)))) λy=>
 gA y λcs=>
 cL cs λBy fP Has View Value Proof=>
 Xs adK λfn cap=>
 b5 (!gv fn)<|
 bd (dy fn ([.agg (cD By fP Has View Value Proof),.i .i64 FO]++cap)) λrA=>
 gI .i64 rA λx2=>
 bd (
 aR (decide (x2<0)) (
 some (0,[.i .i64 (fj .i64 ((fj .i64 (OF (fj .u64 (fj .i64 (i+j))) (2^min (AI 1) (IS .u64))))+1)),.i .i64 j])) (
 some (0,[.i .i64 i,.i .i64 (fj .i64 (OF (fj .u64 (fj .i64 (i+j))) (2^min (AI 1) (IS .u64))))]))) λp1=>
 b5 (sh p1.1 0)<|
 oII .i64 .i64 p1.2 λi1 j1=>
 some (.inl [.i .i64 i1,.i .i64 j1])) (
 some (.inr (2,[.i .i64 i])))) [.i .i64 0,.i .i64 (len:Int)]) λp=>
 b5 (sh p.1 2)<|
 gC p.2 λEa vg=>
 gI .i64 Ea λi2=>
 gN vg<|
 bd (
 aR (decide (i2<(len:Int))) (
 idx x1 i2 λy1=>
 gA y1 λdu=>
 cL du λvj FG oJ b7 bc dS=>
 Xs adK λCg sZ=>
 b5 (!gv Cg)<|
 bd (dy Cg ([.agg (cD vj FG oJ b7 bc dS),.i .i64 FO]++sZ)) λaY=>
 gI .i64 aY λx3=>
 some [.i .i64 i2,.b (decide (x3=0))]) (
 some [.i .i64 i2,.b false])) λvs=>
 gC vs λBk jK=>
 gI .i64 Bk λx4=>
 gC jK λHi mZ=>
 gB Hi λx5=>
 gN mZ<|
 some (.cM [.i .i64 x4,.b x5])
def iR:GT:=bt 104 (uU dO) tj
theorem mE:SG iR:=ln CP [] 49 [(8,⟨[0,1,2,8,9],[],[],[(0,[(6,.sc (.k (.i .i64))),(7,.sc (.k .b))])],[]⟩)] [(6,⟨[0,1,2,8,11],[],[],[(0,[(9,.sc (.k (.i .i64))),(10,.sc (.k (.i .i64)))])],[]⟩)] [(3,⟨[0,1,2,8],[],[(9,.sc (.k (.i .i64))),(10,.sc (.k (.i .i64)))],[(2,[(9,.sc (.k (.i .i64)))])],[]⟩)] Tryz.func104 (by kernel_rfl) (gQ (λ_ _ _=>by kernel_rfl))
def sj (n:List MV)(sA:MV)(i:MV)(rA:MV):Option MV:=gA sA λcs=>
 oT cs λF T=>
 gI .i64 i λi1=>
 gA rA λdu=>
 cL du λBy fP Has View Value Proof=>
 aF n λpR pS pT cq fN pU cc cf bK pV pW bg bh cg db ch cy fh=>
 bd (dO (.list cy) (.i .i64 By) (.func 105 [])) λaY=>
 gT aY λvs=>
 gC vs λTu FM=>
 gI .i64 Tu λx=>
 gC FM λm27 Fs=>
 gB m27 λx1=>
 gN Fs<|
 bd (
 aR (!x1) (
 aR (decide (cq=fP)) (
 bd (pF (.agg [.i .i64 F,.i .i64 T]) (.i .i64 fP)) λbH=>
 gI .i64 bH λx2=>
 aR (decide (x2=i1)) (
 bd (vq (.agg [.i .i64 F,.i .i64 T]) (.agg (cD By fP Has View Value Proof))) λcr=>
 gB cr λx3=>
 some [.b x3]) (
 some [.b false])) (
 some [.b false])) (
 some [.b false])) λfO=>
 gC fO λZT Ft=>
 gB ZT λx4=>
 gN Ft<|
 bd (
 aR x4 (
 both (
 bd (jT 6 72 [.list cy]) λeU=>
 gF eU λxs=>
 bd (qi 72 [.fresh xs,.i .i64 x,.fresh ([.agg (cD By fP Has View Value Proof)]:List MV)]) λkP=>
 gF kP λAG=>
 some (0,(al pR pS pT cq fN pU cc cf bK pV pW bg bh cg db ch AG fh))) (
 bd (jT 6 72 [.list cy]) λqm=>
 gF qm λHo=>
 bd (qi 72 [.fresh Ho,.i .i64 x,.fresh ([.agg (cD By fP Has View Value Proof)]:List MV)]) λA8=>
 gF A8 λJG=>
 some (0,(al pR pS pT cq fN pU cc cf bK pV pW bg bh cg db ch JG fh)))) (
 some (0,(al pR pS pT cq fN pU cc cf bK pV pW bg bh cg db ch cy fh)))) λp=>
 b5 (sh p.1 0)<|
 dB .i64 .i64 .i64 .i64 .i64 .i64 .i64 .i64 p.2 λx5 x6 x7 x8 x9 ll lm mB lN nB pQ rh pa yT Eb GS Hj Fo=>
 some (.gm (.cM []) (al x5 x6 x7 x8 x9 ll lm mB lN nB pQ rh pa yT Eb GS Hj Fo))
def Dv:GT:=bt 47 (cl4 sj) iR
theorem FQ:SG Dv:=fnC mE 0 aiX [] [(0,1000000)] 57 [54] [] [] [(1,[0,1,2,3,4,5,6,7,8,9,10,11]),(2,[0,1,2,3,4,5,6,7,8,9,10,11,12,13,14,15,17,16,18,19,20,21,22,23,24]),(3,[0,1,2,3,4,6,7,5,8,9,10,11,12,0,1,2,3,4,6,7,8,5,9,10,11,12,5,8])] [(2,⟨[0,2,5,7,8,9,1000000],[],[],[(0,[(44,.sc (.k .b))])],[50,53]⟩)] [(3,⟨[0,7,8],[],[],[(0,[(1000000,.box [.k (.i .i64),.k (.i .i64),.k (.i .i64),.k (.i .i64),.k .b,.k (.i .i64),.k .s,.k .l,.k .l,.k (.i .i64),.k (.i .i64),.k .l,.k .l,.k .l,.k .b,.k .s,.k .l,.k (.i .i64)])])],[50,53]⟩)] [] [] Tryz.func47 (by kernel_rfl) (by kernel_rfl) (adA λ_ _ _ _=>by kernel_rfl)
def Ci (sA:MV):Option MV:=gA sA λcs=>
 oT cs λF T=>
 bd (jI (.agg [.i .i64 F,.i .i64 T]) (.raw (.complex .f64 4607182418800017408 0))) λrA=>
 gI .i64 rA λx=>
 some (.i .i64 x)
def Pp:GT:=bt 109 (iT Ci) Dv
theorem NE:SG Pp:=ln FQ [] 5 [] [] [] Tryz.func109 (by kernel_rfl) (ct (λ_=>by kernel_rfl))
def tY (lA nA value:MV):Option MV:=gA lA λcs=>
 di cs λSF ST cw cn fS bE Value=>
 gI .i64 nA λEh=>
 gS value λfT=>
 bd (Ci (.agg [.i .i64 SF,.i .i64 ST])) λrA=>
 gI .i64 rA λx=>
 bd (gx (.agg (bJ SF ST cw cn fS bE Value)) (bJ SF ST cw cn fS bE Value) (.agg [.i .i64 Eh,.i .i64 0,.s fT]) (.i .i64 x)) λaY=>
 gW aY λx1 ls=>
 di ls λs8 s9 cT cU fV kT bc=>
 gT x1 λvs=>
 gC vs λBj ox=>
 gB Bj λx2=>
 gC ox λCM lD=>
 gS CM λx3=>
 gN lD<|
 bd (
 aR x2 (
 some (0,(bJ s8 s9 cT cU fV true x3))) (
 some (0,(bJ s8 s9 cT cU fV kT bc)))) λp=>
 b5 (sh p.1 0)<|
 yu .i64 .i64 p.2 λBm lA2 lA3 lA4 lA5 lA6 lA7=>
 some (.agg (bJ Bm lA2 lA3 lA4 lA5 lA6 lA7))
def FR:GT:=bt 48 (uU tY) Pp
theorem Hv:SG FR:=pX NE [] [] 26 [] [] [] [(1,[0,1,2,3,4,5,6,7,8,9,10,11,12,13])] [] [(3,⟨[6,8],[],[],[(0,[(3,.box [.k (.i .i64),.k (.i .i64),.k .l,.k .l,.k .l,.k .b,.k .s])])],[]⟩)] [] [] Tryz.func48 (by kernel_rfl) (gQ (λ_ _ _=>by kernel_rfl))
def vu (a a1 a2 a3:MV):Option MV:=gA a λcs=>
 oT cs λF T=>
 gI .i64 a1 λez=>
 gA a2 λdu=>
 aF du λpR pS pT cq fN pU cc cf bK pV pW bg bh cg db ch cy fh=>
 gA a3 λiM=>
 bS iM λKind dU View Value dX ei cO b9 Proof Cf nY nZ iD eW eL=>
 bd (
 aR (decide (Kind=1)) (
 bd (pF (.agg [.i .i64 F,.i .i64 T]) (.i .i64 View)) λrA=>
 gI .i64 rA λx=>
 aR (!decide (dU=x)) (
 some (2,(bl pR pS pT cq fN pU cc cf bK pV pW bg bh cg db ch cy fh ([]:List MV)))) (
 bd (nF (.agg (br pR pS pT cq fN pU cc cf bK)) (.i .i64 View) (.s Value) (.list dX)) λaY=>
 gT aY λvs=>
 gC vs λm35 LG=>
 gA m35 λnn=>
 cJ nn λSF ST Me b7 Has At bc dS cQ=>
 gC LG λm45 Lg=>
 gA m45 λNF=>
 eJ NF λBy j7 dG=>
 gC Lg λm49 adM=>
 gB m49 λx1=>
 gN adM<|
 bd (
 aR x1 (
 bB ([.agg (ay 2 0 0 ([]:List UInt8) ([]:List MV) By j7 dG ([]:List MV) 0 0 false 0 ([]:List UInt8) ([]:List MV))]:List MV) λlen=>
 b5 (decide (len *192<=2^46))<|
 some (0,[.list ([.agg (ay 2 0 0 ([]:List UInt8) ([]:List MV) By j7 dG ([]:List MV) 0 0 false 0 ([]:List UInt8) ([]:List MV))]:List MV)])) (
 some (0,[.list ([]:List MV)]))) λp1=>
 b5 (sh p1.1 0)<|
 gC p1.2 λm50 adN=>
 gL m50 λxs=>
 gN adN<|
 some (0,(bl SF ST Me b7 Has At bc dS cQ pV pW bg bh cg db ch cy fh xs)))) (
 bd (
 aR (decide (Kind=2)) (
 bd (si (.agg (br pR pS pT cq fN pU cc cf bK)) (.agg [.i .i64 ei,.i .i64 cO,.s b9])) λbH=>
 gT bH λfO=>
 gC fO λm51 apK=>
 gA m51 λcs5=>
 cJ cs5 λs8 s9 Me1 Ah oJ At1 n5 Hw Cj=>
 oLB apK λx2 x3=>
 bd (
 aR x3 (
 bB ([.agg (ay 3 ez 0 ([]:List UInt8) ([]:List MV) 0 0 ([]:List UInt8) x2 0 0 false 0 ([]:List UInt8) ([]:List MV))]:List MV) λdk=>
 b5 (decide (dk *192<=2^46))<|
 some (0,[.list ([.agg (ay 3 ez 0 ([]:List UInt8) ([]:List MV) 0 0 ([]:List UInt8) x2 0 0 false 0 ([]:List UInt8) ([]:List MV))]:List MV)])) (
 some (0,[.list ([]:List MV)]))) λp3=>
 b5 (sh p3.1 0)<|
 gC p3.2 λm63 TF=>
 gL m63 λAG=>
 gN TF<|
 bd (nG (.agg (bJ pV pW bg bh cg db ch)) (.agg [.i .i64 ei,.i .i64 cO,.s b9])) λcr=>
 gA cr λcs6=>
 di cs6 λSF2 ST2 cw cn fS bE LH=>
 some (0,(bl s8 s9 Me1 Ah oJ At1 n5 Hw Cj SF2 ST2 cw cn fS bE LH cy fh AG))) (
 bd (
 aR (decide (Kind=3)) (
 bd (mr (.agg (bJ pV pW bg bh cg db ch)) (.i .i64 dU) (.list Proof)) λeU=>
 gA eU λcs7=>
 di cs7 λSF3 ST3 cT cU fV kT LI=>
 some (0,(al pR pS pT cq fN pU cc cf bK SF3 ST3 cT cU fV kT LI cy fh))) (
 bd (
 aR (decide (Kind=4)) (
 bd (sj (al pR pS pT cq fN pU cc cf bK pV pW bg bh cg db ch cy fh) (.agg [.i .i64 F,.i .i64 T]) (.i .i64 ez) (.agg (cD Cf nY nZ iD eW eL))) λkP=>
 gW kP λx4 ls=>
 aF ls λCQ CR CS n6 tC CT kh ki iF CU CV eX eY kj n7 jM CW CX=>
 some (0,(al CQ CR CS n6 tC CT kh ki iF CU CV eX eY kj n7 jM CW CX))) (
 bd (
 aR (decide (Kind=5)) (
 bd (tY (.agg (bJ pV pW bg bh cg db ch)) (.i .i64 dU) (.s Value)) λqm=>
 gA qm λcs8=>
 di cs8 λSF4 ST4 Hx Hy Wz adP LJ=>
 some (0,(al pR pS pT cq fN pU cc cf bK SF4 ST4 Hx Hy Wz adP LJ cy fh))) (
 some (0,(al pR pS pT cq fN pU cc cf bK pV pW bg bh cg db ch cy fh)))) λp6=>
 b5 (sh p6.1 0)<|
 dB .i64 .i64 .i64 .i64 .i64 .i64 .i64 .i64 p6.2 λx5 x6 x7 x8 x9 ll lm mB lN nB pQ rh pa yT Eb GS Hj Fo=>
 some (0,(al x5 x6 x7 x8 x9 ll lm mB lN nB pQ rh pa yT Eb GS Hj Fo)))) λp5=>
 b5 (sh p5.1 0)<|
 dB .i64 .i64 .i64 .i64 .i64 .i64 .i64 .i64 p5.2 λI4 Jy I5 I6 I7 Jz JA JB JC JD JE Nu Q8 Q9 Ra x38 x39 x40=>
 some (0,(al I4 Jy I5 I6 I7 Jz JA JB JC JD JE Nu Q8 Q9 Ra x38 x39 x40)))) λp4=>
 b5 (sh p4.1 0)<|
 dB .i64 .i64 .i64 .i64 .i64 .i64 .i64 .i64 p4.2 λx41 x42 x43 x44 x45 x46 x47 x48 x49 x50 x51 x52 x53 x54 x55 x56 x57 x58=>
 some (0,(bl x41 x42 x43 x44 x45 x46 x47 x48 x49 x50 x51 x52 x53 x54 x55 x56 x57 x58 ([]:List MV))))) λp2=>
 b5 (sh p2.1 0)<|
 dQ .i64 .i64 .i64 .i64 .i64 .i64 .i64 .i64 p2.2 λx59 x60 x61 x62 x63 x64 x65 x66 x67 x68 x69 x70 x71 x72 x73 x74 x75 x76 Ho=>
 some (0,(bl x59 x60 x61 x62 x63 x64 x65 x66 x67 x68 x69 x70 x71 x72 x73 x74 x75 x76 Ho)))) λp=>
 aR (sh p.1 2) (
 dQ .i64 .i64 .i64 .i64 .i64 .i64 .i64 .i64 p.2 λx77 x78 x79 x80 x81 x82 x83 x84 x85 x86 x87 x88 x89 x90 x91 x92 x93 x94 JG=>
 bd (
 aR x91 (
 some [.b (!db)]) (
 some [.b false])) λpP=>
 gC pP λawy ak8=>
 gB awy λx95=>
 gN ak8<|
 bd (
 aR x95 (
 bB JG λgj=>
 bB ([.agg (ay 5 ez 0 x92 ([]:List MV) 0 0 ([]:List UInt8) ([]:List MV) 0 0 false 0 ([]:List UInt8) ([]:List MV))]:List MV) λrb=>
 b5 (decide ((gj+rb) *192<=2^46))<|
 some (0,[.list (JG++([.agg (ay 5 ez 0 x92 ([]:List MV) 0 0 ([]:List UInt8) ([]:List MV) 0 0 false 0 ([]:List UInt8) ([]:List MV))]:List MV))])) (
 some (0,[.list JG]))) λp9=>
 b5 (sh p9.1 0)<|
 gC p9.2 λak9 WA=>
 gL ak9 λRc=>
 gN WA<|
 some (.cM [.agg (al x77 x78 x79 x80 x81 x82 x83 x84 x85 x86 x87 x88 x89 x90 x91 x92 x93 x94),.list Rc])) (
 b5 (sh p.1 0)<|
 dQ .i64 .i64 .i64 .i64 .i64 .i64 .i64 .i64 p.2 λx96 x97 x98 x99 adQ adR adS adT adU adV adW adX adY ZZ TG WB adZ ad0 ZY=>
 bd (
 aR TG (
 some [.b (!db)]) (
 some [.b false])) λRf=>
 gC Rf λawz ala=>
 gB awz λalb=>
 gN ala<|
 bd (
 aR alb (
 bB ZY λzv=>
 bB ([.agg (ay 5 ez 0 WB ([]:List MV) 0 0 ([]:List UInt8) ([]:List MV) 0 0 false 0 ([]:List UInt8) ([]:List MV))]:List MV) λxw=>
 b5 (decide ((zv+xw) *192<=2^46))<|
 some (0,[.list (ZY++([.agg (ay 5 ez 0 WB ([]:List MV) 0 0 ([]:List UInt8) ([]:List MV) 0 0 false 0 ([]:List UInt8) ([]:List MV))]:List MV))])) (
 some (0,[.list ZY]))) λp10=>
 b5 (sh p10.1 0)<|
 gC p10.2 λawA alc=>
 gL awA λxs6=>
 gN alc<|
 some (.cM [.agg (al x96 x97 x98 x99 adQ adR adS adT adU adV adW adX adY ZZ TG WB adZ ad0),.list xs6]))
def LL:GT:=bt 15 (Hg vu) FR
theorem LM:SG LL:=pX Hv [] [] 118 [47,66,114] [] [] [(5,[0,1,2,3,4,5,6])] [(22,⟨[1,6,8,10,12],[48,67],[],[(0,[(107,.sc (.k .b))])],[48,67]⟩)] [(23,⟨[1,6,8],[],[],[(0,[(12,.sc (.own 48 62 true))])],[48,67]⟩),(9,⟨[1,6,8,10,13],[],[],[(0,[(12,.sc (.own 48 62 true))])],[48,67]⟩),(14,⟨[1,6,7,8,10,14],[],[],[(0,[(12,.sc (.own 67 62 true))])],[48,67]⟩),(21,⟨[1,7,8,10,12],[],[],[(0,[(6,.box [.k (.i .i64),.k (.i .i64),.k (.i .i64),.k (.i .i64),.k .b,.k (.i .i64),.k .s,.k .l,.k .l,.k (.i .i64),.k (.i .i64),.k .l,.k .l,.k .l,.k .b,.k .s,.k .l,.k (.i .i64)])])],[48,67]⟩),(19,⟨[1,4,7,8,10,12,19],[],[],[(0,[(6,.box [.k (.i .i64),.k (.i .i64),.k (.i .i64),.k (.i .i64),.k .b,.k (.i .i64),.k .s,.k .l,.k .l,.k (.i .i64),.k (.i .i64),.k .l,.k .l,.k .l,.k .b,.k .s,.k .l,.k (.i .i64)])])],[48,67]⟩),(17,⟨[1,4,7,8,10,12,19],[],[],[(0,[(6,.box [.k (.i .i64),.k (.i .i64),.k (.i .i64),.k (.i .i64),.k .b,.k (.i .i64),.k .s,.k .l,.k .l,.k (.i .i64),.k (.i .i64),.k .l,.k .l,.k .l,.k .b,.k .s,.k .l,.k (.i .i64)])])],[48,67]⟩),(11,⟨[1,4,7,8,10,19],[],[],[(0,[(6,.box [.k (.i .i64),.k (.i .i64),.k (.i .i64),.k (.i .i64),.k .b,.k (.i .i64),.k .s,.k .l,.k .l,.k (.i .i64),.k (.i .i64),.k .l,.k .l,.k .l,.k .b,.k .s,.k .l,.k (.i .i64)]),(12,.sc (.own 67 62 true))])],[48,67]⟩),(5,⟨[1,4,7,8,10,19],[],[],[(0,[(6,.box [.k (.i .i64),.k (.i .i64),.k (.i .i64),.k (.i .i64),.k .b,.k (.i .i64),.k .s,.k .l,.k .l,.k (.i .i64),.k (.i .i64),.k .l,.k .l,.k .l,.k .b,.k .s,.k .l,.k (.i .i64)]),(12,.sc (.own 48 62 true))]),(2,[(6,.box [.k (.i .i64),.k (.i .i64),.k (.i .i64),.k (.i .i64),.k .b,.k (.i .i64),.k .s,.k .l,.k .l,.k (.i .i64),.k (.i .i64),.k .l,.k .l,.k .l,.k .b,.k .s,.k .l,.k (.i .i64)]),(12,.sc (.own 48 62 true))])],[48,67]⟩)] [] [] Tryz.func15 (by kernel_rfl) (qj (λ_ _ _ _=>by kernel_rfl))
def sk (a:MV):Option MV:=gA a λcs=>
 cJ cs λSF ST Me View Has At Value Proof cQ=>
 some (.agg (cD Me View Has At Value Proof))
def Dw:GT:=bt 121 (iT sk) LL
theorem FU:SG Dw:=ln LM [] 16 [] [] [] Tryz.func121 (by kernel_rfl) (ct (λ_=>by kernel_rfl))
def qT (a view:MV):Option MV:=gA a λcs=>
 cJ cs λSF ST Me View Has At Value Proof cQ=>
 gI .i64 view λdZ=>
 bd (
 aR (decide (dZ<=View)) (
 some [.b true]) (
 some [.b (decide ((100000:Int)<dZ))])) λvs=>
 gC vs λm9 mX=>
 gB m9 λx=>
 gN mX<|
 aR x (
 some (.cM [.agg (br SF ST Me View Has At Value Proof cQ),.agg (cD 0 0 false 0 ([]:List UInt8) ([]:List MV)),.b false])) (
 bd (sk (.agg (br SF ST Me dZ Has At Value Proof ([]:List MV)))) λrA=>
 gA rA λdu=>
 cL du λBy fP oJ b7 bc dS=>
 some (.cM [.agg (br SF ST Me dZ Has At Value Proof ([]:List MV)),.agg (cD By fP oJ b7 bc dS),.b true]))
def Bs:GT:=bt 56 (eO qT) Dw
theorem Ei:SG Bs:=pX FU [] [] 24 [] [] [] [(4,[0,1,2,3,4,5])] [(1,⟨[1,2,4,5],[],[],[(0,[(14,.sc (.k .b))])],[]⟩)] [] [] [] Tryz.func56 (by kernel_rfl) (bG (λ_ _=>by kernel_rfl))
def s5 (x_ x_1 n view:MV):Option MV:=gA x_ λcs=>
 oT cs λF T=>
 gI .i64 x_1 λaAy=>
 gA n λdu=>
 aF du λpR pS pT cq fN pU cc cf bK pV pW bg bh cg db ch cy fh=>
 gI .i64 view λdZ=>
 bd (qT (.agg (br pR pS pT cq fN pU cc cf bK)) (.i .i64 dZ)) λrA=>
 gT rA λvs=>
 gC vs λK5 kE=>
 gA K5 λiM=>
 cJ iM λSF ST Me View Has At Value Proof cQ=>
 gC kE λWs sW=>
 gA Ws λnn=>
 cL nn λBy fP oJ b7 bc dS=>
 gC sW λm37 K9=>
 gB m37 λx=>
 gN K9<|
 aR (!x) (
 some (.cM [.agg (al pR pS pT cq fN pU cc cf bK pV pW bg bh cg db ch cy fh),.list ([]:List MV)])) (
 both (
 some (.cM [.agg (al SF ST Me View Has At Value Proof cQ pV pW bg bh cg db ch ([]:List MV) fh),.list ([.agg (ay 4 0 0 ([]:List UInt8) ([]:List MV) 0 0 ([]:List UInt8) ([]:List MV) By fP oJ b7 bc dS)]:List MV)])) (
 some (.cM [.agg (al SF ST Me View Has At Value Proof cQ pV pW bg bh cg db ch ([]:List MV) fh),.list ([.agg (ay 4 0 0 ([]:List UInt8) ([]:List MV) 0 0 ([]:List UInt8) ([]:List MV) By fP oJ b7 bc dS)]:List MV)])))
def It:GT:=bt 18 (Hg s5) Bs
theorem Jh:SG It:=pX Ei [] [] 31 [30] [28] [(2,[11])] [(5,[0,1,2,3,4,5,0,1,2,4,3,5,3,4])] [] [] [] [] Tryz.func18 (by kernel_rfl) (qj (λ_ _ _ _=>by kernel_rfl))
def vv (a a1 a2 a3:MV):Option MV:=gA a λcs=>
 oT cs λF T=>
 gI .i64 a1 λez=>
 gA a2 λdu=>
 aF du λpR pS pT cq fN pU cc cf bK pV pW bg bh cg db ch cy fh=>
 gS a3 λaqz=>
 bd (yz (.agg [.i .i64 F,.i .i64 T])) λrA=>
 gI .i64 rA λx=>
 bd (
 bd (pF (.agg [.i .i64 F,.i .i64 T]) (.i .i64 cq)) λaY=>
 gI .i64 aY λx1=>
 aR (!decide (x1=ez)) (
 some [.b true]) (
 some [.b (decide (cq<=fh))])) λvs=>
 gC vs λK5 kE=>
 gB K5 λx2=>
 gN kE<|
 aR x2 (
 some (.cM [.agg (al pR pS pT cq fN pU cc cf bK pV pW bg bh cg db ch cy fh),.list ([]:List MV)])) (
 bd (
 aR (decide ((0:Int)<cq)) (
 bB cy λlen=>
 some [.b (decide ((len:Int)<x))]) (
 some [.b false])) λfO=>
 gC fO λm21 vf=>
 gB m21 λx3=>
 gN vf<|
 aR x3 (
 some (.cM [.agg (al pR pS pT cq fN pU cc cf bK pV pW bg bh cg db ch cy fh),.list ([]:List MV)])) (
 bd (
 aR (decide ((0:Int)<cq)) (
 bB cy λdk=>
 b5 (decide ((0:Int)<=0/\(0:Int)<=x/\x<=(dk:Int)))<|
 bd (jT 6 72 [.list (BY (AI 0) (IN (AI x) cy))]) λbH=>
 gF bH λxs=>
 bd (qM (.agg [.i .i64 F,.i .i64 T]) (.list xs)) λcr=>
 gT cr λpP=>
 oSB pP λx4 x5=>
 bd (
 aR x5 (
 some (0,(ay 1 ez cq x4 xs 0 0 ([]:List UInt8) ([]:List MV) 0 0 false 0 ([]:List UInt8) ([]:List MV)))) (
 some (0,(ay 1 ez cq aqz xs 0 0 ([]:List UInt8) ([]:List MV) 0 0 false 0 ([]:List UInt8) ([]:List MV))))) λp1=>
 b5 (sh p1.1 0)<|
 kD .i64 .i64 .i64 .i64 .i64 .i64 .i64 .i64 p1.2 λx6 x7 x8 x9 AG ll lm mB lN nB pQ rh pa yT Eb=>
 some (0,(ay x6 x7 x8 x9 AG ll lm mB lN nB pQ rh pa yT Eb))) (
 some (0,(ay 1 ez cq aqz ([]:List MV) 0 0 ([]:List UInt8) ([]:List MV) 0 0 false 0 ([]:List UInt8) ([]:List MV))))) λp=>
 b5 (sh p.1 0)<|
 kD .i64 .i64 .i64 .i64 .i64 .i64 .i64 .i64 p.2 λGS Hj Fo I4 Ho Jy I5 I6 I7 Jz JA JB JC JD JE=>
 both (
 some (.cM [.agg (al pR pS pT cq fN pU cc cf bK pV pW bg bh cg db ch cy Fo),.list ([.agg (ay GS Hj Fo I4 Ho Jy I5 I6 I7 Jz JA JB JC JD JE)]:List MV)])) (
 some (.cM [.agg (al pR pS pT cq fN pU cc cf bK pV pW bg bh cg db ch cy Fo),.list ([.agg (ay GS Hj Fo I4 Ho Jy I5 I6 I7 Jz JA JB JC JD JE)]:List MV)]))))
def LN:GT:=bt 20 (Hg vv) It
theorem LO:SG LN:=pX Jh [] [] 75 [74] [73] [(12,[11])] [(13,[0,1,2,3,4,0,1,3,2,4,2,3])] [(5,⟨[4,6,8,10,11],[],[],[(0,[(37,.sc (.k .b))])],[57]⟩),(3,⟨[1,4,6,8,10,11],[],[],[(0,[(22,.sc (.k .b))])],[57]⟩)] [(11,⟨[6,8,12],[],[],[(0,[(11,.box [.k (.i .i64),.k (.i .i64),.k (.i .i64),.k .s,.own 57 60 true,.k (.i .i64),.k (.i .i64),.k .s,.k .l,.k (.i .i64),.k (.i .i64),.k .b,.k (.i .i64),.k .s,.k .l])])],[57]⟩),(8,⟨[4,6,8,10],[],[],[(0,[(11,.box [.k (.i .i64),.k (.i .i64),.k (.i .i64),.k .s,.own 57 60 true,.k (.i .i64),.k (.i .i64),.k .s,.k .l,.k (.i .i64),.k (.i .i64),.k .b,.k (.i .i64),.k .s,.k .l])])],[57]⟩)] [] [] Tryz.func20 (by kernel_rfl) (qj (λ_ _ _ _=>by kernel_rfl))
def qU (c i:MV):Option MV:=gA c λcs=>
 dW cs λSF ST fW Want N cA=>
 gI .i64 i λi1=>
 bd (
 bd (gd (.agg (bx SF ST fW Want N cA)) (.i .i64 i1) (.b false)) λrA=>
 gB rA λx=>
 aR (!x) (
 some [.b true]) (
 idx N i1 λy=>
 gA y λdu=>
 aF du λpR pS pT cq fN pU cc cf bK pV pW bg bh cg db ch cy fh=>
 some [.b (!db)])) λvs=>
 gC vs λWr FL=>
 gB Wr λx1=>
 gN FL<|
 aR x1 (
 some (.cM [.s ([]:List UInt8),.b false])) (
 idx N i1 λy1=>
 gA y1 λiM=>
 aF iM λCQ CR CS n6 tC CT kh ki iF CU CV eX eY kj n7 jM CW CX=>
 some (.cM [.s jM,.b true]))
def FV:GT:=bt 30 (eO qU) LN
theorem Hz:SG FV:=ln LO [] 27 [(1,⟨[1,2],[],[],[(0,[(19,.sc (.k .b))])],[]⟩)] [] [] Tryz.func30 (by kernel_rfl) (bG (λ_ _=>by kernel_rfl))
def pG (sA:MV):Option MV:=gA sA λcs=>
 oT cs λF T=>
 bd (
 aR (decide ((1:Int)<=F)) (
 aR (decide (F<=5)) (
 aR (decide ((0:Int)<=T)) (
 some [.b (decide (T<=F))]) (
 some [.b false])) (
 some [.b false])) (
 some [.b false])) λvs=>
 gC vs λm2 jW=>
 gB m2 λx=>
 gN jW<|
 some (.b x)
def Pq:GT:=bt 92 (iT pG) FV
theorem NG:SG Pq:=ln Hz [] 23 [(1,⟨[1],[],[],[(0,[(2,.sc (.k .b))])],[]⟩)] [] [] Tryz.func92 (by kernel_rfl) (ct (λ_=>by kernel_rfl))
def Ai (sA:MV):Option MV:=gA sA λcs=>
 oT cs λF T=>
 some (.i .i64 (fj .i64 ((fj .i64 ((fj .i64 (3 *F))+(fj .i64 (2 *T))))+1)))
def ai0:GT:=bt 93 (iT Ai) Pq
theorem Z3:SG ai0:=ln NG [] 11 [] [] [] Tryz.func93 (by kernel_rfl) (ct (λ_=>by kernel_rfl))
def Ck (sA me:MV):Option MV:=gA sA λcs=>
 oT cs λF T=>
 gI .i64 me λWx=>
 bd (
 bd (pG (.agg [.i .i64 F,.i .i64 T])) λrA=>
 gB rA λx=>
 aR (!x) (
 some [.b true]) (
 aR (decide (Wx<0)) (
 some [.b true]) (
 bd (Ai (.agg [.i .i64 F,.i .i64 T])) λaY=>
 gI .i64 aY λx1=>
 some [.b (decide (x1<=Wx))]))) λvs=>
 gC vs λm2 jW=>
 gB m2 λx2=>
 gN jW<|
 aR x2 (
 some (.cM [.agg (br 0 0 0 0 false 0 ([]:List UInt8) ([]:List MV) ([]:List MV)),.i .i64 1])) (
 some (.cM [.agg (br F T Wx 0 false 0 ([]:List UInt8) ([]:List MV) ([]:List MV)),.i .i64 0]))
def Yg:GT:=bt 37 (eO Ck) ai0
theorem TH:SG Yg:=ln Z3 [] 23 [(1,⟨[1,2,4],[],[],[(0,[(18,.sc (.k .b))])],[]⟩)] [] [] Tryz.func37 (by kernel_rfl) (bG (λ_ _=>by kernel_rfl))
def FW (sA:MV):Option MV:=gA sA λcs=>
 oT cs λF T=>
 bd (pG (.agg [.i .i64 F,.i .i64 T])) λrA=>
 gB rA λx=>
 aR (!x) (
 some (.cM [.agg (bJ 0 0 ([]:List MV) ([]:List MV) ([]:List MV) false ([]:List UInt8)),.i .i64 1])) (
 some (.cM [.agg (bJ F T ([]:List MV) ([]:List MV) ([]:List MV) false ([]:List UInt8)),.i .i64 0]))
def Yh:GT:=bt 38 (iT FW) Yg
theorem TJ:SG Yh:=ln TH [] 10 [] [] [] Tryz.func38 (by kernel_rfl) (ct (λ_=>by kernel_rfl))
def Cl (sA i:MV):Option MV:=gA sA λcs=>
 oT cs λF T=>
 gI .i64 i λi1=>
 bd (Ck (.agg [.i .i64 F,.i .i64 T]) (.i .i64 i1)) λrA=>
 gT rA λvs=>
 gC vs λm2 jW=>
 gA m2 λdu=>
 cJ du λSF ST Me View Has At Value Proof cQ=>
 gC jW λvW gq=>
 gI .i64 vW λx=>
 gN gq<|
 aR (!decide (x=0)) (
 some (.cM [.agg (al 0 0 0 0 false 0 ([]:List UInt8) ([]:List MV) ([]:List MV) 0 0 ([]:List MV) ([]:List MV) ([]:List MV) false ([]:List UInt8) ([]:List MV) 0),.i .i64 x])) (
 bd (FW (.agg [.i .i64 F,.i .i64 T])) λaY=>
 gT aY λfO=>
 gC fO λCL jJ=>
 gA CL λiM=>
 di iM λs8 s9 cw cn fS bE bc=>
 gC jJ λm21 vf=>
 gI .i64 m21 λx1=>
 gN vf<|
 some (.cM [.agg (al SF ST Me View Has At Value Proof cQ s8 s9 cw cn fS bE bc ([]:List MV) (-1)),.i .i64 0]))
def Ps:GT:=bt 11 (eO Cl) Yh
theorem NH:SG Ps:=ln TJ [] 28 [] [] [] Tryz.func11 (by kernel_rfl) (bG (λ_ _=>by kernel_rfl))
def lO (sA:MV):Option MV:=gA sA λcs=>
 oT cs λF T=>
 some (.agg [.i .i64 F,.i .i64 T])
def Pt:GT:=bt 12 (iT lO) Ps
theorem NI:SG Pt:=ln NH [] 8 [] [] [] Tryz.func12 (by kernel_rfl) (ct (λ_=>by kernel_rfl))
def oL (a b:MV):Option MV:=gL a λa1=>
 gL b λb1=>
 bB a1 λlen=>
 bB b1 λdk=>
 aR (!decide ((len:Int)=(dk:Int))) (
 some (.b false)) (
 bd (Loop (λqC=>
 gC qC λm lY=>
 gI .i64 m λi=>
 gN lY<|
 bB a1 λgj=>
 aR (decide (i<(gj:Int))) (
 idx a1 i λy=>
 gA y λcs=>
 eJ cs λBy View Value=>
 idx b1 i λy1=>
 gA y1 λdu=>
 eJ du λvj b7 bc=>
 aR (!((decide (By=vj))&&((decide (View=b7))&&(decide (Value=bc))))) (
 some (.inr (1,[.b false]))) (
 some (.inl [.i .i64 (fj .i64 (i+1))]))) (
 some (.inr (2,[])))) [.i .i64 0]) λp=>
 aR (sh p.1 2) (
 gN p.2<|
 some (.b true)) (
 b5 (sh p.1 1)<|
 gC p.2 λm7 rK=>
 gB m7 λx=>
 gN rK<|
 some (.b x)))
def TL:GT:=bt 94 (eO oL) Pt
theorem Rh:SG TL:=pX NI [] [] 26 [] [] [] [(6,[0,1,2,3,4,5,6,7,8])] [] [] [(4,⟨[0,1],[],[(5,.sc (.k (.i .i64)))],[(1,[(4,.sc (.k .b))]),(2,[])],[]⟩)] [] Tryz.func94 (by kernel_rfl) (bG (λ_ _=>by kernel_rfl))
def FX (a b:MV):Option MV:=gA a λcs=>
 cJ cs λSF ST Me View Has At Value Proof cQ=>
 gA b λdu=>
 cJ du λs8 s9 Me1 b7 oJ At1 bc dS Cj=>
 bd (
 aR ((decide (SF=s8))&&(decide (ST=s9))) (
 aR (decide (Me=Me1)) (
 aR (decide (View=b7)) (
 aR (decide (Has=oJ)) (
 aR (decide (At=At1)) (
 some [.b (decide (Value=bc))]) (
 some [.b false])) (
 some [.b false])) (
 some [.b false])) (
 some [.b false])) (
 some [.b false])) λvs=>
 gC vs λHi jK=>
 gB Hi λflat=>
 gN jK<|
 bd (
 aR flat (
 bd (oL (.list Proof) (.list dS)) λrA=>
 gB rA λx=>
 aR x (
 bd (oL (.list cQ) (.list Cj)) λaY=>
 gB aY λx1=>
 some [.b x1]) (
 some [.b false])) (
 some [.b false])) λfO=>
 gC fO λNt mZ=>
 gB Nt λx2=>
 gN mZ<|
 some (.b x2)
def TM:GT:=bt 39 (eO FX) TL
theorem Ri:SG TM:=ln Rh [] 63 [(2,⟨[2,3,5],[],[],[(0,[(4,.sc (.k .b))])],[]⟩),(1,⟨[2,3],[],[],[(0,[(5,.sc (.k .b))])],[]⟩)] [] [] Tryz.func39 (by kernel_rfl) (bG (λ_ _=>by kernel_rfl))
def FY (a b:MV):Option MV:=gA a λcs=>
 di cs λSF ST cw cn fS bE Value=>
 gA b λdu=>
 di du λs8 s9 cT cU fV kT bc=>
 bd (
 aR ((decide (SF=s8))&&(decide (ST=s9))) (
 aR (decide (bE=kT)) (
 some [.b (decide (Value=bc))]) (
 some [.b false])) (
 some [.b false])) λvs=>
 gC vs λBj ox=>
 gB Bj λflat=>
 gN ox<|
 bd (
 aR flat (
 bd (oL (.list cw) (.list cT)) λrA=>
 gB rA λx=>
 aR x (
 bd (oL (.list cn) (.list cU)) λaY=>
 gB aY λx1=>
 aR x1 (
 bd (oL (.list fS) (.list fV)) λbH=>
 gB bH λx2=>
 some [.b x2]) (
 some [.b false])) (
 some [.b false])) (
 some [.b false])) λfO=>
 gC fO λCM lD=>
 gB CM λx3=>
 gN lD<|
 some (.b x3)
def TN:GT:=bt 40 (eO FY) TM
theorem Rj:SG TN:=ln Ri [] 53 [(2,⟨[2,3,5],[],[],[(0,[(4,.sc (.k .b))])],[]⟩),(1,⟨[2,3],[],[],[(0,[(5,.sc (.k .b))])],[]⟩)] [] [] Tryz.func40 (by kernel_rfl) (bG (λ_ _=>by kernel_rfl))
def FZ (a b:MV):Option MV:=gA a λcs=>
 cL cs λBy fP Has View Value Proof=>
 gA b λdu=>
 cL du λvj FG oJ b7 bc dS=>
 bd (
 aR (decide (By=vj)) (
 aR (decide (fP=FG)) (
 aR (decide (Has=oJ)) (
 aR (decide (View=b7)) (
 aR (decide (Value=bc)) (
 bd (oL (.list Proof) (.list dS)) λrA=>
 gB rA λx=>
 some [.b x]) (
 some [.b false])) (
 some [.b false])) (
 some [.b false])) (
 some [.b false])) (
 some [.b false])) λvs=>
 gC vs λvW gq=>
 gB vW λx1=>
 gN gq<|
 some (.b x1)
def Yi:GT:=bt 95 (eO FZ) TN
theorem TP:SG Yi:=ln Rj [] 45 [(1,⟨[2,3],[],[],[(0,[(4,.sc (.k .b))])],[]⟩)] [] [] Tryz.func95 (by kernel_rfl) (bG (λ_ _=>by kernel_rfl))
def Bt (a b:MV):Option MV:=gL a λa1=>
 gL b λb1=>
 bB a1 λlen=>
 bB b1 λdk=>
 aR (!decide ((len:Int)=(dk:Int))) (
 some (.b false)) (
 bd (Loop (λqC=>
 gC qC λm lY=>
 gI .i64 m λi=>
 gN lY<|
 bB a1 λgj=>
 aR (decide (i<(gj:Int))) (
 idx a1 i λy=>
 gA y λcs=>
 cL cs λBy fP Has View Value Proof=>
 idx b1 i λy1=>
 gA y1 λdu=>
 cL du λvj FG oJ b7 bc dS=>
 bd (FZ (.agg (cD By fP Has View Value Proof)) (.agg (cD vj FG oJ b7 bc dS))) λrA=>
 gB rA λx=>
 aR (!x) (
 some (.inr (1,[.b false]))) (
 some (.inl [.i .i64 (fj .i64 (i+1))]))) (
 some (.inr (2,[])))) [.i .i64 0]) λp=>
 aR (sh p.1 2) (
 gN p.2<|
 some (.b true)) (
 b5 (sh p.1 1)<|
 gC p.2 λCL ox=>
 gB CL λx1=>
 gN ox<|
 some (.b x1)))
def TQ:GT:=bt 41 (eO Bt) Yi
theorem Rk:SG TQ:=pX TP [] [] 27 [] [] [] [(6,[0,1,2,3,4,5,6,7,8,9])] [] [] [(4,⟨[0,1],[],[(5,.sc (.k (.i .i64)))],[(1,[(4,.sc (.k .b))]),(2,[])],[]⟩)] [] Tryz.func41 (by kernel_rfl) (bG (λ_ _=>by kernel_rfl))
def yD (x y:MV):Option MV:=gA x λcs=>
 aF cs λpR pS pT cq fN pU cc cf bK pV pW bg bh cg db ch cy fh=>
 gA y λdu=>
 aF du λCQ CR CS n6 tC CT kh ki iF CU CV eX eY kj n7 jM CW CX=>
 bd (
 bd (FX (.agg (br pR pS pT cq fN pU cc cf bK)) (.agg (br CQ CR CS n6 tC CT kh ki iF))) λrA=>
 gB rA λx1=>
 aR x1 (
 bd (FY (.agg (bJ pV pW bg bh cg db ch)) (.agg (bJ CU CV eX eY kj n7 jM))) λaY=>
 gB aY λx2=>
 aR x2 (
 bd (Bt (.list cy) (.list CW)) λbH=>
 gB bH λx3=>
 aR x3 (
 some [.b (decide (fh=CX))]) (
 some [.b false])) (
 some [.b false])) (
 some [.b false])) λvs=>
 gC vs λm36 K8=>
 gB m36 λx4=>
 gN K8<|
 some (.b x4)
def Pu:GT:=bt 13 (eO yD) TQ
theorem NJ:SG Pu:=ln Rk [] 31 [(1,⟨[2,3],[],[],[(0,[(4,.sc (.k .b))])],[]⟩)] [] [] Tryz.func13 (by kernel_rfl) (bG (λ_ _=>by kernel_rfl))
def Bu (n:MV):Option MV:=gA n λcs=>
 aF cs λpR pS pT cq fN pU cc cf bK pV pW bg bh cg db ch cy fh=>
 bd (lO (.agg [.i .i64 pR,.i .i64 pS])) λrA=>
 gA rA λdu=>
 oT du λF T=>
 bd (lO (.agg [.i .i64 pV,.i .i64 pW])) λaY=>
 gA aY λiM=>
 oT iM λF1 T1=>
 some (.agg (al F T pT cq fN pU cc cf bK F1 T1 bg bh cg db ch cy fh))
def TR:GT:=bt 14 (iT Bu) Pu
theorem Rl:SG TR:=pX NJ [] [] 58 [] [9] [(1,[1])] [(1,[0,1,2,3,4,5,6,7]),(3,[0,1,3,4,5,6,7,8,9,10,11,12,13,14,15,16,17,18,2,19,20,21]),(4,[0,1,3,4,5,6,7,8,9,10,11,12,13,14,15,16,17,18,2,19,20,21])] [] [] [] [] Tryz.func14 (by kernel_rfl) (ct (λ_=>by kernel_rfl))
def rN (sA view:MV):Option MV:=gA sA λcs=>
 oT cs λF T=>
 gI .i64 view λdZ=>
 bd (Ai (.agg [.i .i64 F,.i .i64 T])) λrA=>
 gI .i64 rA λx=>
 b5 (!decide (x=0))<|
 some (.i .i64 (aaI (imax dZ 0) x))
def LP:GT:=bt 49 (eO rN) TR
theorem LQ:SG LP:=ln Rl [] 10 [] [] [] Tryz.func49 (by kernel_rfl) (bG (λ_ _=>by kernel_rfl))
def LR (p:MV):Option MV:=gL p λp1=>
 bB p1 λlen=>
 aR (decide ((len:Int)=0)) (
 some (.cM [.i .i64 (-1),.s ([]:List UInt8),.b false])) (
 idx p1 0 λy=>
 gA y λcs=>
 eJ cs λBy View Value=>
 idx p1 0 λy1=>
 gA y1 λdu=>
 eJ du λvj b7 bc=>
 some (.cM [.i .i64 View,.s bc,.b true]))
def ad1:GT:=bt 114 (iT LR) LP
theorem WC:SG ad1:=pX LQ [] [] 16 [] [] [] [(3,[0,1,2,3,4,5,6,7,8,9,10])] [] [] [] [] Tryz.func114 (by kernel_rfl) (ct (λ_=>by kernel_rfl))
def Cm (sA:MV):Option MV:=gA sA λcs=>
 oT cs λF T=>
 some (.i .i64 (fj .i64 ((fj .i64 (F+T))+1)))
def Pv:GT:=bt 125 (iT Cm) ad1
theorem NK:SG Pv:=ln WC [] 9 [] [] [] Tryz.func125 (by kernel_rfl) (ct (λ_=>by kernel_rfl))
def yE (a a1:MV):Option MV:=gA a λcs=>
 oT cs λF T=>
 gL a1 λez=>
 bd (Loop (λjW=>
 gC jW λm2 rI=>
 gI .i64 m2 λx=>
 gC rI λm3 qD=>
 gS m3 λx1=>
 gC qD λm4 Ec=>
 gI .i64 m4 λx2=>
 gN Ec<|
 bB ez λlen=>
 aR (decide (x2<(len:Int))) (
 idx ez x2 λy=>
 gA y λdu=>
 cL du λBy fP Has View Value Proof=>
 bd (LR (.list Proof)) λrA=>
 gT rA λvs=>
 Hk vs λx3 x4 x5=>
 bd (
 aR x5 (
 some [.b (decide (x<x3))]) (
 some [.b false])) λfO=>
 gC fO λBj lD=>
 gB Bj λx6=>
 gN lD<|
 bd (
 aR x6 (
 some (0,[.i .i64 x3,.s x4])) (
 some (0,[.i .i64 x,.s x1]))) λp1=>
 b5 (sh p1.1 0)<|
 gC p1.2 λCM qN=>
 gI .i64 CM λx7=>
 gC qN λK4 na=>
 gS K4 λx8=>
 gN na<|
 some (.inl [.i .i64 x7,.s x8,.i .i64 (fj .i64 (x2+1))])) (
 some (.inr (2,[.i .i64 x,.s x1])))) [.i .i64 (-1),.s ([]:List UInt8),.i .i64 0]) λp=>
 b5 (sh p.1 2)<|
 gC p.2 λBk jK=>
 gI .i64 Bk λx9=>
 gC jK λHi mZ=>
 gS Hi λll=>
 gN mZ<|
 bd (Loop (λkE=>
 gC kE λNt vf=>
 gI .i64 Nt λlm=>
 gN vf<|
 bB ez λdk=>
 aR (decide (lm<(dk:Int))) (
 bd (Loop (λadI=>
 oT adI λmB lN=>
 bB ez λgj=>
 aR (decide (lN<(gj:Int))) (
 bd (
 idx ez lN λy1=>
 gA y1 λiM=>
 cL iM λvj FG oJ b7 bc dS=>
 aR oJ (
 idx ez lN λy2=>
 gA y2 λnn=>
 cL nn λSh aqA aqB j7 dG Hw=>
 aR (decide (x9<j7)) (
 idx ez lm λy3=>
 gA y3 λNF=>
 cL NF λBy3 ahx ad2 Ah n5 Rm=>
 aR ad2 (
 idx ez lm λy4=>
 gA y4 λcs5=>
 cL cs5 λBy4 aDb aDc ad3 LH awB=>
 aR (decide (x9<ad3)) (
 idx ez lN λy5=>
 gA y5 λcs6=>
 cL cs6 λBy5 aDd aDe aAz LI awC=>
 idx ez lm λy6=>
 gA y6 λcs7=>
 cL cs7 λBy6 aDf aDg aAA LJ awD=>
 some [.b (decide (LI=LJ))]) (
 some [.b false])) (
 some [.b false])) (
 some [.b false])) (
 some [.b false])) λpP=>
 gC pP λm58 ad4=>
 gB m58 λnB=>
 gN ad4<|
 bd (
 aR nB (
 some (0,[.i .i64 (fj .i64 (mB+1))])) (
 some (0,[.i .i64 mB]))) λp4=>
 b5 (sh p4.1 0)<|
 gC p4.2 λm59 ad5=>
 gI .i64 m59 λpQ=>
 gN ad5<|
 some (.inl [.i .i64 pQ,.i .i64 (fj .i64 (lN+1))])) (
 some (.inr (6,[.i .i64 mB])))) [.i .i64 0,.i .i64 0]) λp3=>
 b5 (sh p3.1 6)<|
 gC p3.2 λm60 TF=>
 gI .i64 m60 λrh=>
 gN TF<|
 bd (Cm (.agg [.i .i64 F,.i .i64 T])) λaY=>
 gI .i64 aY λpa=>
 aR (decide (pa<=rh)) (
 idx ez lm λy7=>
 gA y7 λcs8=>
 cL cs8 λBy7 aDj aDk aAB ald awF=>
 some (.inr (1,[.s ald,.b true]))) (
 some (.inl [.i .i64 (fj .i64 (lm+1))]))) (
 some (.inr (4,[])))) [.i .i64 0]) λp2=>
 aR (sh p2.1 4) (
 gN p2.2<|
 some (.cM [.s ll,.b (decide ((0:Int)<=x9))])) (
 b5 (sh p2.1 1)<|
 oSB p2.2 λyT Eb=>
 some (.cM [.s yT,.b Eb]))
def Pw:GT:=bt 62 (eO yE) Pv
theorem NL:SG Pw:=pX NK [] [] 108 [] [] [] [(15,[0,1,2,3,4,5,6,7,8,9,10,11,12,13,14,15,16,17,18,19,20,21,22,23,24,25,26,27,28,29,30,31,32,33,34,35,36,37,38,39,40,41,42])] [(15,⟨[1,2,6,7,12,13,14],[],[],[(0,[(93,.sc (.k .b))])],[]⟩),(6,⟨[1,2,6,7,8,9,10,11],[],[],[(0,[(36,.sc (.k .b))])],[]⟩)] [(16,⟨[1,2,6,7,12,14],[],[],[(0,[(13,.sc (.k (.i .i64)))])],[]⟩),(7,⟨[1,2,8,9,10],[],[],[(0,[(6,.sc (.k (.i .i64))),(7,.sc (.k .s))])],[]⟩)] [(13,⟨[1,2,6,7,12],[],[(13,.sc (.k (.i .i64))),(14,.sc (.k (.i .i64)))],[(6,[(13,.sc (.k (.i .i64)))])],[]⟩),(9,⟨[1,2,6,7],[],[(12,.sc (.k (.i .i64)))],[(1,[(4,.sc (.k .s)),(5,.sc (.k .b))]),(4,[])],[]⟩),(3,⟨[1,2],[],[(6,.sc (.k (.i .i64))),(7,.sc (.k .s)),(8,.sc (.k (.i .i64)))],[(2,[(6,.sc (.k (.i .i64))),(7,.sc (.k .s))])],[]⟩)] [] Tryz.func62 (by kernel_rfl) (bG (λ_ _=>by kernel_rfl))
def Bv (sA:MV):Option MV:=gA sA λcs=>
 oT cs λF T=>
 some (.i .i64 (fj .i64 ((fj .i64 ((fj .i64 (2 *F))+(fj .i64 (2 *T))))+1)))
def TS:GT:=bt 61 (iT Bv) Pw
theorem Rn:SG TS:=ln NL [] 11 [] [] [] Tryz.func61 (by kernel_rfl) (ct (λ_=>by kernel_rfl))
def wU (a:MV):Option MV:=gA a λcs=>
 eJ cs λBy View Value=>
 bd (
 aR (decide ((0:Int)<=By)) (
 aR (decide ((0:Int)<=View)) (
 aR (decide (View<=100000)) (
 some [.b (decide ((Value.length:Int)<=6000))]) (
 some [.b false])) (
 some [.b false])) (
 some [.b false])) λvs=>
 gC vs λm3 rI=>
 gB m3 λx=>
 gN rI<|
 some (.b x)
def Yj:GT:=bt 111 (iT wU) TS
theorem TT:SG Yj:=ln Rn [] 22 [(1,⟨[1],[],[],[(0,[(2,.sc (.k .b))])],[]⟩)] [] [] Tryz.func111 (by kernel_rfl) (ct (λ_=>by kernel_rfl))
def uu (sA:MV):Option MV:=gA sA λcs=>
 oT cs λF T=>
 some (.i .i64 (fj .i64 ((fj .i64 ((fj .i64 (2 *F))+T))+1)))
def Px:GT:=bt 118 (iT uu) Yj
theorem NM:SG Px:=ln TT [] 10 [] [] [] Tryz.func118 (by kernel_rfl) (ct (λ_=>by kernel_rfl))
def uv (a a1:MV):Option MV:=gA a λcs=>
 oT cs λF T=>
 gL a1 λez=>
 bd (
 bd (pG (.agg [.i .i64 F,.i .i64 T])) λrA=>
 gB rA λx=>
 aR (!x) (
 some [.b true]) (
 bB ez λlen=>
 bd (uu (.agg [.i .i64 F,.i .i64 T])) λaY=>
 gI .i64 aY λx1=>
 some [.b (!decide ((len:Int)=x1))])) λvs=>
 gC vs λm2 jW=>
 gB m2 λx2=>
 gN jW<|
 aR x2 (
 some (.b false)) (
 bd (Loop (λrI=>
 gC rI λm3 qD=>
 gI .i64 m3 λx3=>
 gN qD<|
 bB ez λdk=>
 aR (decide (x3<(dk:Int))) (
 idx ez x3 λy=>
 gA y λdu=>
 eJ du λBy View Value=>
 bd (
 bd (wU (.agg [.i .i64 By,.i .i64 View,.s Value])) λbH=>
 gB bH λx4=>
 aR (!x4) (
 some [.b true]) (
 bd (Ai (.agg [.i .i64 F,.i .i64 T])) λcr=>
 gI .i64 cr λx5=>
 aR (decide (x5<=By)) (
 some [.b true]) (
 idx ez 0 λy1=>
 gA y1 λiM=>
 eJ iM λvj b7 bc=>
 aR (!decide (View=b7)) (
 some [.b true]) (
 idx ez 0 λy2=>
 gA y2 λnn=>
 eJ nn λSh j7 dG=>
 aR (!decide (Value=dG)) (
 some [.b true]) (
 aR (decide ((0:Int)<x3)) (
 idx ez (fj .i64 (x3-1)) λy3=>
 gA y3 λNF=>
 eJ NF λBy3 Ah n5=>
 some [.b (decide (By<=By3))]) (
 some [.b false])))))) λfO=>
 gC fO λK4 na=>
 gB K4 λx6=>
 gN na<|
 aR x6 (
 some (.inr (1,[.b false]))) (
 some (.inl [.i .i64 (fj .i64 (x3+1))]))) (
 some (.inr (2,[])))) [.i .i64 0]) λp=>
 aR (sh p.1 2) (
 gN p.2<|
 some (.b true)) (
 b5 (sh p.1 1)<|
 gC p.2 λBk jK=>
 gB Bk λx7=>
 gN jK<|
 some (.b x7)))
def Py:GT:=bt 117 (eO uv) Px
theorem NN:SG Py:=pX NM [] [] 70 [] [] [] [(7,[0,1,2,3,4,5,6,7,8,9,10,11,12,13,14,15,16,17,18,19,20,21,22,23,24,25,26,27,28,29,30,31,32,33,34,35,36,37,38,39,40,41,42])] [(7,⟨[1,2,5,6],[],[],[(0,[(69,.sc (.k .b))])],[]⟩),(1,⟨[1,2],[],[],[(0,[(16,.sc (.k .b))])],[]⟩)] [] [(4,⟨[1,2],[],[(5,.sc (.k (.i .i64)))],[(1,[(4,.sc (.k .b))]),(2,[])],[]⟩)] [] Tryz.func117 (by kernel_rfl) (bG (λ_ _=>by kernel_rfl))
def F5 (a a1:MV):Option MV:=gA a λcs=>
 oT cs λF T=>
 gA a1 λdu=>
 cL du λBy fP Has View Value Proof=>
 bd (
 bd (pG (.agg [.i .i64 F,.i .i64 T])) λrA=>
 gB rA λx=>
 aR (!x) (
 some [.b true]) (
 aR (decide (By<0)) (
 some [.b true]) (
 bd (Ai (.agg [.i .i64 F,.i .i64 T])) λaY=>
 gI .i64 aY λx1=>
 aR (decide (x1<=By)) (
 some [.b true]) (
 aR (decide (fP<1)) (
 some [.b true]) (
 some [.b (decide ((100000:Int)<fP))]))))) λvs=>
 gC vs λm8 rK=>
 gB m8 λx2=>
 gN rK<|
 aR x2 (
 some (.b false)) (
 bd (
 aR Has (
 aR (decide (View<0)) (
 some [.b true]) (
 aR (decide (fP<=View)) (
 some [.b true]) (
 aR (decide ((6000:Int)<(Value.length:Int))) (
 some [.b true]) (
 aR (!Has) (
 aR (!decide (View=0)) (
 some [.b true]) (
 some [.b (!decide (Value=([]:List UInt8)))])) (
 some [.b false]))))) (
 aR (!Has) (
 aR (!decide (View=0)) (
 some [.b true]) (
 some [.b (!decide (Value=([]:List UInt8)))])) (
 some [.b false]))) λfO=>
 gC fO λm9 mX=>
 gB m9 λx3=>
 gN mX<|
 aR x3 (
 some (.b false)) (
 bd (
 bB Proof λlen=>
 aR (decide ((len:Int)=0)) (
 some [.b true]) (
 bd (uv (.agg [.i .i64 F,.i .i64 T]) (.list Proof)) λbH=>
 gB bH λx4=>
 aR x4 (
 idx Proof 0 λy=>
 gA y λiM=>
 eJ iM λvj b7 bc=>
 some [.b (decide (b7<fP))]) (
 some [.b false]))) λpP=>
 gC pP λCL jJ=>
 gB CL λx5=>
 gN jJ<|
 some (.b x5)))
def Yk:GT:=bt 119 (eO F5) Py
theorem TU:SG Yk:=pX NN [] [] 85 [] [] [] [(1,[0,1,2,3,4,5,6,7,8,9,10,11,12,13,14,15,16,17,18,19,20,21,22,23,24]),(5,[0,1,2,3,4,5,6,7,8,9,10,11,12,13,14,15,16,17,18,19,20])] [(5,⟨[2,3],[],[],[(0,[(4,.sc (.k .b))])],[]⟩),(3,⟨[2,3],[],[],[(0,[(64,.sc (.k .b))])],[]⟩),(1,⟨[2,3],[],[],[(0,[(29,.sc (.k .b))])],[]⟩)] [] [] [] Tryz.func119 (by kernel_rfl) (bG (λ_ _=>by kernel_rfl))
def Cn (sA view lA:MV):Option MV:=gA sA λcs=>
 oT cs λF T=>
 gI .i64 view λdZ=>
 gL lA λBm=>
 bd (
 bd (pG (.agg [.i .i64 F,.i .i64 T])) λrA=>
 gB rA λx=>
 aR (!x) (
 some [.b true]) (
 bB Bm λlen=>
 bd (Bv (.agg [.i .i64 F,.i .i64 T])) λaY=>
 gI .i64 aY λx1=>
 some [.b (!decide ((len:Int)=x1))])) λvs=>
 gC vs λm2 jW=>
 gB m2 λx2=>
 gN jW<|
 aR x2 (
 some (.b false)) (
 bd (Loop (λrI=>
 gC rI λm3 qD=>
 gI .i64 m3 λi=>
 gN qD<|
 bB Bm λdk=>
 aR (decide (i<(dk:Int))) (
 bd (
 idx Bm i λy=>
 gA y λdu=>
 cL du λBy fP Has View Value Proof=>
 bd (F5 (.agg [.i .i64 F,.i .i64 T]) (.agg (cD By fP Has View Value Proof))) λbH=>
 gB bH λx3=>
 aR (!x3) (
 some [.b true]) (
 idx Bm i λy1=>
 gA y1 λiM=>
 cL iM λvj FG oJ b7 bc dS=>
 aR (!decide (FG=dZ)) (
 some [.b true]) (
 aR (decide ((0:Int)<i)) (
 idx Bm (fj .i64 (i-1)) λy2=>
 gA y2 λnn=>
 cL nn λSh aqA aqB j7 dG Hw=>
 idx Bm i λy3=>
 gA y3 λNF=>
 cL NF λBy3 ahx ad2 Ah n5 Rm=>
 some [.b (decide (By3<=Sh))]) (
 some [.b false])))) λfO=>
 gC fO λZT Fu=>
 gB ZT λx4=>
 gN Fu<|
 aR x4 (
 some (.inr (1,[.b false]))) (
 some (.inl [.i .i64 (fj .i64 (i+1))]))) (
 some (.inr (2,[])))) [.i .i64 0]) λp=>
 aR (sh p.1 2) (
 gN p.2<|
 some (.b true)) (
 b5 (sh p.1 1)<|
 gC p.2 λm29 sW=>
 gB m29 λx5=>
 gN sW<|
 some (.b x5)))
def Pz:GT:=bt 165 (uU Cn) Yk
theorem NO:SG Pz:=pX TU [] [] 58 [] [] [] [(6,[0,1,2,3,4,5,6,7,8,9,10,11,12,13,14,15,16,17,18,19,20,21,22,23,24,25,26,27,28,29,30,31,32,33])] [(6,⟨[1,2,3,7],[],[],[(0,[(57,.sc (.k .b))])],[]⟩),(1,⟨[1,2,3],[],[],[(0,[(17,.sc (.k .b))])],[]⟩)] [] [(4,⟨[1,2,3],[],[(7,.sc (.k (.i .i64)))],[(1,[(6,.sc (.k .b))]),(2,[])],[]⟩)] [] Tryz.func165 (by kernel_rfl) (gQ (λ_ _ _=>by kernel_rfl))
def s6 (sA view lA value:MV):Option MV:=gA sA λcs=>
 oT cs λF T=>
 gI .i64 view λdZ=>
 gL lA λBm=>
 gS value λfT=>
 bd (Cn (.agg [.i .i64 F,.i .i64 T]) (.i .i64 dZ) (.list Bm)) λrA=>
 gB rA λx=>
 aR (!x) (
 some (.b false)) (
 bd (yE (.agg [.i .i64 F,.i .i64 T]) (.list Bm)) λaY=>
 gT aY λvs=>
 oSB vs λx1 x2=>
 bd (
 aR (!x2) (
 some [.b true]) (
 some [.b (decide (x1=fT))])) λfO=>
 gC fO λm4 qD=>
 gB m4 λx3=>
 gN qD<|
 some (.b x3))
def Iu:GT:=bt 110 (Hg s6) Pz
theorem Ji:SG Iu:=ln NO [] 29 [(4,⟨[3,9,10],[],[],[(0,[(8,.sc (.k .b))])],[]⟩)] [] [] Tryz.func110 (by kernel_rfl) (qj (λ_ _ _ _=>by kernel_rfl))
def wV (a view value jE:MV):Option MV:=gA a λcs=>
 cJ cs λSF ST Me View Has At Value Proof cQ=>
 gI .i64 view λdZ=>
 gS value λfT=>
 gL jE λPn=>
 bd (
 aR (decide (dZ=0)) (
 bB Pn λlen=>
 some [.b (decide ((len:Int)=0))]) (
 some [.b false])) λvs=>
 gC vs λm9 mX=>
 gB m9 λfree=>
 gN mX<|
 bd (
 aR (!decide (dZ=View)) (
 some [.b true]) (
 aR Has (
 aR (decide (At=dZ)) (
 some [.b true]) (
 aR (decide ((6000:Int)<(fT.length:Int))) (
 some [.b true]) (
 aR (!free) (
 bd (s6 (.agg [.i .i64 SF,.i .i64 ST]) (.i .i64 dZ) (.list Pn) (.s fT)) λrA=>
 gB rA λx=>
 some [.b (!x)]) (
 some [.b false])))) (
 aR (decide ((6000:Int)<(fT.length:Int))) (
 some [.b true]) (
 aR (!free) (
 bd (s6 (.agg [.i .i64 SF,.i .i64 ST]) (.i .i64 dZ) (.list Pn) (.s fT)) λaY=>
 gB aY λx1=>
 some [.b (!x1)]) (
 some [.b false]))))) λfO=>
 gC fO λEa mY=>
 gB Ea λx2=>
 gN mY<|
 aR x2 (
 some (.cM [.agg (br SF ST Me View Has At Value Proof cQ),.agg [.i .i64 0,.i .i64 0,.s ([]:List UInt8)],.b false])) (
 some (.cM [.agg (br SF ST Me View true dZ fT Proof cQ),.agg [.i .i64 Me,.i .i64 dZ,.s fT],.b true]))
def Iv:GT:=bt 50 (Hg wV) Iu
theorem Jj:SG Iv:=pX Ji [] [] 64 [] [60] [(7,[4])] [(7,[0,1,2,3,4,5,6,7,8])] [(2,⟨[1,2,3,4,8,9,11],[],[],[(0,[(50,.sc (.k .b))])],[]⟩),(1,⟨[1,2,3,4,8,9],[],[],[(0,[(11,.sc (.k .b))])],[]⟩)] [] [] [] Tryz.func50 (by kernel_rfl) (qj (λ_ _ _ _=>by kernel_rfl))
def zK (a a1:MV):Option MV:=gA a λcs=>
 gC cs λm qC=>
 gL m λL=>
 gN qC<|
 gA a1 λdu=>
 eJ du λBy View Value=>
 bd (wU (.agg [.i .i64 By,.i .i64 View,.s Value])) λrA=>
 gB rA λx=>
 aR (!x) (
 some (.cM [.agg [.list L],.b false])) (
 bd (Loop (λqD=>
 gC qD λm4 Ec=>
 gL m4 λx1=>
 gC Ec λm5 Hl=>
 gL m5 λxs=>
 gC Hl λm6 rJ=>
 gB m6 λx2=>
 gC rJ λm7 rK=>
 gI .i64 m7 λx3=>
 gN rK<|
 bB L λlen=>
 aR (decide (x3<(len:Int))) (
 idx L x3 λy=>
 gA y λiM=>
 eJ iM λvj b7 bc=>
 bd (
 aR (decide (vj=By)) (
 some [.b (decide (View<=b7))]) (
 some [.b false])) λvs=>
 gC vs λFm gq=>
 gB Fm λx4=>
 gN gq<|
 aR x4 (
 some (.inr (1,[.list L,.b false]))) (
 bd (
 aR (!x2) (
 some [.b (decide (By<=vj))]) (
 some [.b false])) λfO=>
 gC fO λvW jJ=>
 gB vW λx5=>
 gN jJ<|
 bd (
 aR x5 (
 bB xs λdk=>
 bB ([.agg [.i .i64 By,.i .i64 View,.s Value]]:List MV) λgj=>
 b5 (decide ((dk+gj) *32<=2^46))<|
 some (0,[.list (xs++([.agg [.i .i64 By,.i .i64 View,.s Value]]:List MV)),.b true])) (
 some (0,[.list xs,.b x2]))) λp1=>
 b5 (sh p1.1 0)<|
 oLB p1.2 λAG x6=>
 bd (
 aR (!decide (vj=By)) (
 bB AG λrb=>
 bB ([.agg [.i .i64 vj,.i .i64 b7,.s bc]]:List MV) λzv=>
 b5 (decide ((rb+zv) *32<=2^46))<|
 some (0,[.list (AG++([.agg [.i .i64 vj,.i .i64 b7,.s bc]]:List MV))])) (
 some (0,[.list AG]))) λp2=>
 b5 (sh p2.1 0)<|
 gC p2.2 λCM qN=>
 gL CM λHo=>
 gN qN<|
 some (.inl [.list x1,.list Ho,.b x6,.i .i64 (fj .i64 (x3+1))]))) (
 some (.inr (2,[.list x1,.list xs,.b x2])))) [.list ([]:List MV),.list ([]:List MV),.b false,.i .i64 0]) λp=>
 aR (sh p.1 2) (
 Tv p.2 λx7 JG x8=>
 bd (
 aR (!x8) (
 bB JG λxw=>
 bB ([.agg [.i .i64 By,.i .i64 View,.s Value]]:List MV) λNv=>
 b5 (decide ((xw+Nv) *32<=2^46))<|
 some (0,[.list (JG++([.agg [.i .i64 By,.i .i64 View,.s Value]]:List MV))])) (
 some (0,[.list JG]))) λp5=>
 b5 (sh p5.1 0)<|
 gC p5.2 λNt kE=>
 gL Nt λRc=>
 gN kE<|
 some (.cM [.agg [.list Rc],.b true])) (
 b5 (sh p.1 1)<|
 oLB p.2 λx9 ll=>
 some (.cM [.agg [.list x9],.b ll])))
def Yl:GT:=bt 112 (eO zK) Iv
theorem TV:SG Yl:=pX Jj [] [] 70 [51,60,66] [] [] [] [(11,⟨[2,3,4,6,7,8,9],[14],[],[(0,[(48,.sc (.k .b))])],[14]⟩),(9,⟨[2,3,4,6,7,8,9],[14],[],[(0,[(38,.sc (.k .b))])],[14]⟩)] [(17,⟨[3,4],[],[],[(0,[(6,.sc (.own 14 58 true))])],[14]⟩),(15,⟨[2,3,4,7,8,9],[],[],[(0,[(6,.sc (.own 14 58 true))])],[14]⟩),(12,⟨[2,3,4,8,9],[],[],[(0,[(6,.sc (.own 14 58 true)),(7,.sc (.k .b))])],[14]⟩)] [(6,⟨[2,3],[],[(4,.box [.k .l]),(6,.sc (.own 14 58 true)),(7,.sc (.k .b)),(8,.sc (.k (.i .i64)))],[(1,[(4,.box [.k .l]),(5,.sc (.k .b))]),(2,[(4,.box [.k .l]),(6,.sc (.own 14 58 true)),(7,.sc (.k .b))])],[14]⟩)] [] Tryz.func112 (by kernel_rfl) (bG (λ_ _=>by kernel_rfl))
def vw (t view value:MV):Option MV:=gA t λcs=>
 gC cs λm qC=>
 gL m λL=>
 gN qC<|
 gI .i64 view λdZ=>
 gS value λfT=>
 bd (Loop (λlY=>
 Dk lY λout i=>
 bB L λlen=>
 aR (decide (i<(len:Int))) (
 bd (
 idx L i λy=>
 gA y λdu=>
 eJ du λBy View Value=>
 aR (decide (View=dZ)) (
 idx L i λy1=>
 gA y1 λiM=>
 eJ iM λvj b7 bc=>
 some [.b (decide (bc=fT))]) (
 some [.b false])) λvs=>
 gC vs λm9 mY=>
 gB m9 λx=>
 gN mY<|
 bd (
 aR x (
 idx L i λy2=>
 gA y2 λnn=>
 eJ nn λSh j7 dG=>
 bB out λdk=>
 bB ([.agg [.i .i64 Sh,.i .i64 j7,.s dG]]:List MV) λgj=>
 b5 (decide ((dk+gj) *32<=2^46))<|
 some (0,[.list (out++([.agg [.i .i64 Sh,.i .i64 j7,.s dG]]:List MV))])) (
 some (0,[.list out]))) λp1=>
 b5 (sh p1.1 0)<|
 gC p1.2 λCL ox=>
 gL CL λLl=>
 gN ox<|
 some (.inl [.list Ll,.i .i64 (fj .i64 (i+1))])) (
 some (.inr (2,[.list out])))) [.list ([]:List MV),.i .i64 0]) λp=>
 b5 (sh p.1 2)<|
 gC p.2 λBj lD=>
 gL Bj λakT=>
 gN lD<|
 some (.list akT)
def LS:GT:=bt 167 (uU vw) Yl
theorem LU:SG LS:=pX TV [] [] 44 [41] [] [] [] [(5,⟨[1,2,3,7,8],[9],[],[(0,[(34,.sc (.k .b))])],[9]⟩)] [(6,⟨[1,2,3,8],[],[],[(0,[(7,.sc (.own 9 58 true))])],[9]⟩)] [(3,⟨[1,2,3],[],[(7,.sc (.own 9 58 true)),(8,.sc (.k (.i .i64)))],[(2,[(7,.sc (.own 9 58 true))])],[9]⟩)] [] Tryz.func167 (by kernel_rfl) (gQ (λ_ _ _=>by kernel_rfl))
def Co (t view value:MV):Option MV:=gA t λcs=>
 gC cs λm qC=>
 gL m λL=>
 gN qC<|
 gI .i64 view λdZ=>
 gS value λfT=>
 bd (vw (.agg [.list L]) (.i .i64 dZ) (.s fT)) λrA=>
 gL rA λx=>
 bB x λlen=>
 some (.i .i64 (len:Int))
def PA:GT:=bt 184 (uU Co) LS
theorem NP:SG PA:=ln LU [] 12 [] [] [] Tryz.func184 (by kernel_rfl) (gQ (λ_ _ _=>by kernel_rfl))
def Bw (t bY:MV):Option MV:=gA t λcs=>
 gC cs λm qC=>
 gL m λL=>
 gN qC<|
 gI .i64 bY λDu=>
 bd (Loop (λlY=>
 oT lY λahy i=>
 bd (
 bB L λlen=>
 aR (decide (i<(len:Int))) (
 some [.b (decide ((1:Int)<=Du))]) (
 some [.b false])) λvs=>
 gC vs λm3 qD=>
 gB m3 λx=>
 gN qD<|
 aR x (
 idx L i λy=>
 gA y λdu=>
 eJ du λBy View Value=>
 bd (
 bd (Co (.agg [.list L]) (.i .i64 View) (.s Value)) λrA=>
 gI .i64 rA λx1=>
 aR (decide (Du<=x1)) (
 aR (decide (ahy<0)) (
 some [.b true]) (
 idx L ahy λy1=>
 gA y1 λiM=>
 eJ iM λvj b7 bc=>
 some [.b (decide (b7<View))])) (
 some [.b false])) λfO=>
 gC fO λEa vg=>
 gB Ea λx2=>
 gN vg<|
 bd (
 aR x2 (
 some (0,[.i .i64 i])) (
 some (0,[.i .i64 ahy]))) λp1=>
 b5 (sh p1.1 0)<|
 gC p1.2 λFm gq=>
 gI .i64 Fm λaqC=>
 gN gq<|
 some (.inl [.i .i64 aqC,.i .i64 (fj .i64 (i+1))])) (
 some (.inr (2,[.i .i64 ahy])))) [.i .i64 (-1),.i .i64 0]) λp=>
 b5 (sh p.1 2)<|
 gC p.2 λvW jJ=>
 gI .i64 vW λad6=>
 gN jJ<|
 aR (decide (ad6<0)) (
 some (.cM [.i .i64 0,.s ([]:List UInt8),.b false])) (
 idx L ad6 λy2=>
 gA y2 λnn=>
 eJ nn λSh j7 dG=>
 idx L ad6 λy3=>
 gA y3 λNF=>
 eJ NF λBy3 Ah n5=>
 some (.cM [.i .i64 j7,.s n5,.b true]))
def TW:GT:=bt 166 (eO Bw) PA
theorem Ro:SG TW:=pX NP [] [] 64 [] [] [] [(6,[0,1,2,3,4,6,5,7,8,9,10,11,12,13,14,15,16,17,18,19,20,21,22]),(10,[0,1,2,3,4,5,6,7,8,9,10,11,12,13,14])] [(6,⟨[1,2,7,8,9],[],[],[(0,[(48,.sc (.k .b))])],[]⟩),(3,⟨[1,2,7,8],[],[],[(0,[(18,.sc (.k .b))])],[]⟩)] [(7,⟨[1,2,8],[],[],[(0,[(7,.sc (.k (.i .i64)))])],[]⟩)] [(3,⟨[1,2],[],[(7,.sc (.k (.i .i64))),(8,.sc (.k (.i .i64)))],[(2,[(7,.sc (.k (.i .i64)))])],[]⟩)] [] Tryz.func166 (by kernel_rfl) (bG (λ_ _=>by kernel_rfl))
def F6 (sA t:MV):Option MV:=gA sA λcs=>
 oT cs λF T=>
 gA t λdu=>
 gC du λm2 jW=>
 gL m2 λL=>
 gN jW<|
 bd (uu (.agg [.i .i64 F,.i .i64 T])) λrA=>
 gI .i64 rA λx=>
 bd (Bw (.agg [.list L]) (.i .i64 x)) λaY=>
 gT aY λvs=>
 Hk vs λx1 x2 x3=>
 aR (!x3) (
 some (.cM [.list ([]:List MV),.b false])) (
 bd (vw (.agg [.list L]) (.i .i64 x1) (.s x2)) λbH=>
 gL bH λx4=>
 bB x4 λlen=>
 b5 (decide ((0:Int)<=0/\(0:Int)<=x/\x<=(len:Int)))<|
 some (.cM [.list (BY (AI 0) (IN (AI x) x4)),.b true]))
def TX:GT:=bt 113 (eO F6) TW
theorem Rq:SG TX:=ln Ro [] 27 [] [] [] Tryz.func113 (by kernel_rfl) (bG (λ_ _=>by kernel_rfl))
def F7 (a a1:MV):Option MV:=gA a λcs=>
 cJ cs λSF ST Me View Has At Value Proof cQ=>
 gA a1 λdu=>
 eJ du λBy b7 bc=>
 bd (
 bd (wU (.agg [.i .i64 By,.i .i64 b7,.s bc])) λrA=>
 gB rA λx=>
 aR (!x) (
 some [.b true]) (
 bd (Ai (.agg [.i .i64 SF,.i .i64 ST])) λaY=>
 gI .i64 aY λx1=>
 aR (decide (x1<=By)) (
 some [.b true]) (
 some [.b (!decide (b7=View))]))) λvs=>
 gC vs λvW gq=>
 gB vW λx2=>
 gN gq<|
 aR x2 (
 some (.cM [.agg (br SF ST Me View Has At Value Proof cQ),.list ([]:List MV),.b false])) (
 bd (zK (.agg [.list cQ]) (.agg [.i .i64 By,.i .i64 b7,.s bc])) λbH=>
 gT bH λfO=>
 gC fO λCL jJ=>
 gA CL λiM=>
 gC iM λBj ox=>
 gL Bj λL=>
 gN ox<|
 gC jJ λCM lD=>
 gB CM λx3=>
 gN lD<|
 bd (F6 (.agg [.i .i64 SF,.i .i64 ST]) (.agg [.list L])) λcr=>
 gT cr λpP=>
 oLB pP λx4 x5=>
 bd (LR (.list Proof)) λeU=>
 gT eU λRf=>
 Hk Rf λx6 x7 x8=>
 bd (
 aR (!x5) (
 some [.b true]) (
 idx x4 0 λy=>
 gA y λnn=>
 eJ nn λvj j7 dG=>
 some [.b (decide (j7<=x6))])) λvs4=>
 gC vs4 λWr FL=>
 gB Wr λx9=>
 gN FL<|
 aR x9 (
 some (.cM [.agg (br SF ST Me View Has At Value Proof L),.list ([]:List MV),.b false])) (
 some (.cM [.agg (br SF ST Me View Has At Value x4 L),.list x4,.b true])))
def TY:GT:=bt 51 (eO F7) TX
theorem Rr:SG TY:=pX Rq [] [] 71 [] [] [] [(1,[0,1,2,3,4,5,6,7,8,9,10,11,12,13,14,15,16,17])] [(7,⟨[2,4,9,10,11],[],[],[(0,[(65,.sc (.k .b))])],[]⟩),(1,⟨[2,3,4],[],[],[(0,[(31,.sc (.k .b))])],[]⟩)] [] [] [] Tryz.func51 (by kernel_rfl) (bG (λ_ _=>by kernel_rfl))
def pH (lA t bY:MV):Option MV:=gA lA λcs=>
 di cs λSF ST cw cn fS bE Value=>
 gA t λdu=>
 gC du λm7 rJ=>
 gL m7 λL=>
 gN rJ<|
 gI .i64 bY λDu=>
 bd (Bw (.agg [.list L]) (.i .i64 Du)) λrA=>
 gT rA λvs=>
 Hk vs λx x1 x2=>
 bd (
 aR x2 (
 some (0,(bJ SF ST cw cn fS true x1))) (
 some (0,(bJ SF ST cw cn fS bE Value)))) λp=>
 b5 (sh p.1 0)<|
 yu .i64 .i64 p.2 λBm lA2 lA3 lA4 lA5 lA6 lA7=>
 some (.agg (bJ Bm lA2 lA3 lA4 lA5 lA6 lA7))
def Iw:GT:=bt 115 (uU pH) TY
theorem Jk:SG Iw:=ln Rr [] 22 [] [(3,⟨[6,8],[],[],[(0,[(3,.box [.k (.i .i64),.k (.i .i64),.k .l,.k .l,.k .l,.k .b,.k .s])])],[]⟩)] [] Tryz.func115 (by kernel_rfl) (gQ (λ_ _ _=>by kernel_rfl))
def F8 (sA:MV):Option MV:=gA sA λcs=>
 oT cs λF T=>
 some (.i .i64 (fj .i64 ((fj .i64 ((fj .i64 (3 *F))+T))+1)))
def TZ:GT:=bt 116 (iT F8) Iw
theorem Rs:SG TZ:=ln Jk [] 10 [] [] [] Tryz.func116 (by kernel_rfl) (ct (λ_=>by kernel_rfl))
def tZ (lA a:MV):Option MV:=gA lA λcs=>
 di cs λSF ST cw cn fS bE Value=>
 gA a λdu=>
 eJ du λBy View bc=>
 bd (
 aR bE (
 some [.b true]) (
 bd (Ai (.agg [.i .i64 SF,.i .i64 ST])) λrA=>
 gI .i64 rA λx=>
 some [.b (decide (x<=By))])) λvs=>
 gC vs λEa mY=>
 gB Ea λx1=>
 gN mY<|
 aR x1 (
 some (.agg (bJ SF ST cw cn fS bE Value))) (
 bd (zK (.agg [.list cw]) (.agg [.i .i64 By,.i .i64 View,.s bc])) λaY=>
 gT aY λfO=>
 gC fO λFm vg=>
 gA Fm λiM=>
 gC iM λvW gq=>
 gL vW λL=>
 gN gq<|
 gC vg λCL jJ=>
 gB CL λx2=>
 gN jJ<|
 bd (wU (.agg [.i .i64 By,.i .i64 View,.s bc])) λbH=>
 gB bH λx3=>
 aR (!x3) (
 some (.agg (bJ SF ST L cn fS bE Value))) (
 bd (F8 (.agg [.i .i64 SF,.i .i64 ST])) λcr=>
 gI .i64 cr λx4=>
 bd (pH (.agg (bJ SF ST L cn fS bE Value)) (.agg [.list L]) (.i .i64 x4)) λeU=>
 gA eU λnn=>
 di nn λs8 s9 cT cU fV kT dG=>
 some (.agg (bJ s8 s9 cT cU fV kT dG))))
def F9:GT:=bt 52 (eO tZ) TZ
theorem HA:SG F9:=pX Rs [] [] 37 [] [] [] [(1,[0,1,2,3,4,5,6,7,8,9]),(7,[0,1,2,3,4,5,6])] [(1,⟨[2,3,4],[],[],[(0,[(16,.sc (.k .b))])],[]⟩)] [] [] [] Tryz.func52 (by kernel_rfl) (bG (λ_ _=>by kernel_rfl))
def sm (lA nA p:MV):Option MV:=gA lA λcs=>
 di cs λSF ST cw cn fS bE Value=>
 gI .i64 nA λEh=>
 gL p λp1=>
 bd (
 aR bE (
 some [.b true]) (
 aR (decide (Eh<0)) (
 some [.b true]) (
 bd (Ai (.agg [.i .i64 SF,.i .i64 ST])) λrA=>
 gI .i64 rA λx=>
 aR (decide (x<=Eh)) (
 some [.b true]) (
 bd (uv (.agg [.i .i64 SF,.i .i64 ST]) (.list p1)) λaY=>
 gB aY λx1=>
 some [.b (!x1)])))) λvs=>
 gC vs λm7 rJ=>
 gB m7 λx2=>
 gN rJ<|
 aR x2 (
 some (.agg (bJ SF ST cw cn fS bE Value))) (
 idx p1 0 λy=>
 gA y λdu=>
 eJ du λBy View bc=>
 idx p1 0 λy1=>
 gA y1 λiM=>
 eJ iM λvj b7 dG=>
 bd (zK (.agg [.list cn]) (.agg [.i .i64 Eh,.i .i64 View,.s dG])) λbH=>
 gT bH λfO=>
 gC fO λBj ox=>
 gA Bj λnn=>
 gC nn λCM lD=>
 gL CM λL=>
 gN lD<|
 gC ox λK4 qN=>
 gB K4 λx3=>
 gN qN<|
 bd (uu (.agg [.i .i64 SF,.i .i64 ST])) λcr=>
 gI .i64 cr λx4=>
 bd (pH (.agg (bJ SF ST cw L fS bE Value)) (.agg [.list L]) (.i .i64 x4)) λeU=>
 gA eU λNF=>
 di NF λs8 s9 cT cU fV kT n5=>
 some (.agg (bJ s8 s9 cT cU fV kT n5)))
def Dx:GT:=bt 53 (uU sm) F9
theorem Ga:SG Dx:=pX HA [] [] 54 [] [] [] [(3,[0,1,2,3,4,5,6,7,8,9,10,11,12,13,14,15,16,17,18]),(5,[0,1,2,3,4,5,6])] [(1,⟨[1,2,3,6],[],[],[(0,[(28,.sc (.k .b))])],[]⟩)] [] [] [] Tryz.func53 (by kernel_rfl) (gQ (λ_ _ _=>by kernel_rfl))
def JH (a a1 a2 a3:MV):Option MV:=gA a λcs=>
 oT cs λF T=>
 gI .i64 a1 λez=>
 gA a2 λdu=>
 aF du λpR pS pT cq fN pU cc cf bK pV pW bg bh cg db ch cy fh=>
 gA a3 λiM=>
 cL iM λBy fP Has View Value Proof=>
 bd (
 aR (!decide (cq=fP)) (
 some [.b true]) (
 bd (rN (.agg [.i .i64 F,.i .i64 T]) (.i .i64 fP)) λrA=>
 gI .i64 rA λx=>
 aR (!decide (x=ez)) (
 some [.b true]) (
 bd (F5 (.agg [.i .i64 F,.i .i64 T]) (.agg (cD By fP Has View Value Proof))) λaY=>
 gB aY λx1=>
 some [.b (!x1)]))) λvs=>
 gC vs λTu FM=>
 gB Tu λx2=>
 gN FM<|
 aR x2 (
 some (.list cy)) (
 bd (Loop (λFs=>
 gC Fs λm27 Ft=>
 gL m27 λxs=>
 gC Ft λZT Fu=>
 gB ZT λx3=>
 gC Fu λm29 sW=>
 gI .i64 m29 λx4=>
 gN sW<|
 bB cy λlen=>
 aR (decide (x4<(len:Int))) (
 idx cy x4 λy=>
 gA y λnn=>
 cL nn λvj FG oJ b7 bc dS=>
 aR (decide (vj=By)) (
 some (.inr (1,[.list cy]))) (
 bd (
 aR (!x3) (
 idx cy x4 λy1=>
 gA y1 λNF=>
 cL NF λSh aqA aqB j7 dG Hw=>
 some [.b (decide (By<Sh))]) (
 some [.b false])) λfO=>
 gC fO λm42 Lf=>
 gB m42 λx5=>
 gN Lf<|
 bd (
 aR x5 (
 bB xs λdk=>
 bB ([.agg (cD By fP Has View Value Proof)]:List MV) λgj=>
 b5 (decide ((dk+gj) *72<=2^46))<|
 some (0,[.list (xs++([.agg (cD By fP Has View Value Proof)]:List MV)),.b true])) (
 some (0,[.list xs,.b x3]))) λp1=>
 b5 (sh p1.1 0)<|
 oLB p1.2 λAG x6=>
 idx cy x4 λy2=>
 gA y2 λcs5=>
 cL cs5 λBy3 ahx ad2 Ah n5 Rm=>
 bB AG λrb=>
 bB ([.agg (cD By3 ahx ad2 Ah n5 Rm)]:List MV) λzv=>
 b5 (decide ((rb+zv) *72<=2^46))<|
 some (.inl [.list (AG++([.agg (cD By3 ahx ad2 Ah n5 Rm)]:List MV)),.b x6,.i .i64 (fj .i64 (x4+1))]))) (
 some (.inr (2,[.list xs,.b x3])))) [.list ([]:List MV),.b false,.i .i64 0]) λp=>
 aR (sh p.1 2) (
 oLB p.2 λHo x7=>
 bd (
 aR (!x7) (
 bB Ho λxw=>
 bB ([.agg (cD By fP Has View Value Proof)]:List MV) λNv=>
 b5 (decide ((xw+Nv) *72<=2^46))<|
 some (0,[.list (Ho++([.agg (cD By fP Has View Value Proof)]:List MV))])) (
 some (0,[.list Ho]))) λp4=>
 b5 (sh p4.1 0)<|
 gC p4.2 λm53 adE=>
 gL m53 λJG=>
 gN adE<|
 some (.list JG)) (
 b5 (sh p.1 1)<|
 gC p.2 λm54 adF=>
 gL m54 λx8=>
 gN adF<|
 some (.list x8)))
def Ym:GT:=bt 54 (Hg JH) Dx
theorem T5:SG Ym:=pX Ga [] [] 85 [68,76,82] [] [] [(8,[0,1,2,3,4,5,6,7,8]),(10,[0,1,2,3,4,5,6,7,8,9,10,11,12])] [(10,⟨[6,7,9,10,11],[34],[],[(0,[(65,.sc (.k .b))])],[34]⟩),(1,⟨[1,4,6,7],[],[],[(0,[(31,.sc (.k .b))])],[34]⟩)] [(15,⟨[7],[],[],[(0,[(9,.sc (.own 34 60 true))])],[34]⟩),(11,⟨[6,7,11],[],[],[(0,[(9,.sc (.own 34 60 true)),(10,.sc (.k .b))])],[34]⟩)] [(6,⟨[6,7],[],[(9,.sc (.own 34 60 true)),(10,.sc (.k .b)),(11,.sc (.k (.i .i64)))],[(1,[(8,.sc (.k .l))]),(2,[(9,.sc (.own 34 60 true)),(10,.sc (.k .b))])],[34]⟩)] [] Tryz.func54 (by kernel_rfl) (qj (λ_ _ _ _=>by kernel_rfl))
def Gb (sA:MV):Option MV:=gA sA λcs=>
 oT cs λF T=>
 some (.i .i64 (fj .i64 (F+1)))
def T6:GT:=bt 120 (iT Gb) Ym
theorem Rt:SG T6:=ln T5 [] 6 [] [] [] Tryz.func120 (by kernel_rfl) (ct (λ_=>by kernel_rfl))
def Gc (lA nA value:MV):Option MV:=gA lA λcs=>
 di cs λSF ST cw cn fS bE Value=>
 gI .i64 nA λEh=>
 gS value λfT=>
 bd (
 aR bE (
 some [.b true]) (
 aR (decide (Eh<0)) (
 some [.b true]) (
 bd (Ai (.agg [.i .i64 SF,.i .i64 ST])) λrA=>
 gI .i64 rA λx=>
 aR (decide (x<=Eh)) (
 some [.b true]) (
 some [.b (decide ((6000:Int)<(fT.length:Int)))])))) λvs=>
 gC vs λm7 rJ=>
 gB m7 λx1=>
 gN rJ<|
 aR x1 (
 some (.agg (bJ SF ST cw cn fS bE Value))) (
 bd (zK (.agg [.list fS]) (.agg [.i .i64 Eh,.i .i64 0,.s fT])) λaY=>
 gT aY λfO=>
 gC fO λm8 rK=>
 gA m8 λdu=>
 gC du λm9 mX=>
 gL m9 λL=>
 gN mX<|
 gC rK λEa mY=>
 gB Ea λx2=>
 gN mY<|
 bd (Gb (.agg [.i .i64 SF,.i .i64 ST])) λbH=>
 gI .i64 bH λx3=>
 bd (pH (.agg (bJ SF ST cw cn L bE Value)) (.agg [.list L]) (.i .i64 x3)) λcr=>
 gA cr λiM=>
 di iM λs8 s9 cT cU fV kT bc=>
 some (.agg (bJ s8 s9 cT cU fV kT bc)))
def T7:GT:=bt 55 (uU Gc) T6
theorem Ru:SG T7:=pX Rt [] [] 45 [] [] [] [(5,[0,1,2,3,4,5,6])] [(1,⟨[1,2,3,6],[],[],[(0,[(26,.sc (.k .b))])],[]⟩)] [] [] [] Tryz.func55 (by kernel_rfl) (gQ (λ_ _ _=>by kernel_rfl))
def Cp (a a1 a2 a3:MV):Option MV:=gA a λcs=>
 oT cs λF T=>
 gI .i64 a1 λez=>
 gA a2 λdu=>
 aF du λpR pS pT cq fN pU cc cf bK pV pW bg bh cg db ch cy fh=>
 gA a3 λiM=>
 bS iM λKind dU View Value dX ei cO b9 Proof Cf nY nZ iD eW eL=>
 bd (
 aR (decide (Kind=1)) (
 bd (rN (.agg [.i .i64 F,.i .i64 T]) (.i .i64 View)) λrA=>
 gI .i64 rA λx=>
 bd (
 aR (decide (dU=x)) (
 bd (wV (.agg (br pR pS pT cq fN pU cc cf bK)) (.i .i64 View) (.s Value) (.list dX)) λaY=>
 gT aY λvs=>
 gC vs λm35 LG=>
 gA m35 λnn=>
 cJ nn λSF ST Me b7 Has At bc dS cQ=>
 gC LG λm45 Lg=>
 gA m45 λNF=>
 eJ NF λBy j7 dG=>
 gC Lg λm49 adM=>
 gB m49 λx1=>
 gN adM<|
 bd (
 aR x1 (
 bB ([]:List MV) λlen=>
 bB ([.agg (ay 2 0 0 ([]:List UInt8) ([]:List MV) By j7 dG ([]:List MV) 0 0 false 0 ([]:List UInt8) ([]:List MV))]:List MV) λdk=>
 b5 (decide ((len+dk) *192<=2^46))<|
 some (0,[.list (([]:List MV)++([.agg (ay 2 0 0 ([]:List UInt8) ([]:List MV) By j7 dG ([]:List MV) 0 0 false 0 ([]:List UInt8) ([]:List MV))]:List MV))])) (
 some (0,[.list ([]:List MV)]))) λp2=>
 b5 (sh p2.1 0)<|
 gC p2.2 λm50 adN=>
 gL m50 λxs=>
 gN adN<|
 some (0,(bl SF ST Me b7 Has At bc dS cQ pV pW bg bh cg db ch cy fh xs))) (
 some (0,(bl pR pS pT cq fN pU cc cf bK pV pW bg bh cg db ch cy fh ([]:List MV))))) λp1=>
 b5 (sh p1.1 0)<|
 dQ .i64 .i64 .i64 .i64 .i64 .i64 .i64 .i64 p1.2 λx2 x3 x4 x5 x6 x7 x8 x9 ll lm mB lN nB pQ rh pa yT Eb AG=>
 some (0,(bl x2 x3 x4 x5 x6 x7 x8 x9 ll lm mB lN nB pQ rh pa yT Eb AG))) (
 bd (
 aR (decide (Kind=2)) (
 bd (F7 (.agg (br pR pS pT cq fN pU cc cf bK)) (.agg [.i .i64 ei,.i .i64 cO,.s b9])) λbH=>
 gT bH λfO=>
 gC fO λm70 T8=>
 gA m70 λcs5=>
 cJ cs5 λs8 s9 Me1 Ah oJ At1 n5 Hw Cj=>
 oLB T8 λGS Hj=>
 bd (
 aR Hj (
 bB ([]:List MV) λgj=>
 bB ([.agg (ay 3 ez 0 ([]:List UInt8) ([]:List MV) 0 0 ([]:List UInt8) GS 0 0 false 0 ([]:List UInt8) ([]:List MV))]:List MV) λrb=>
 b5 (decide ((gj+rb) *192<=2^46))<|
 some (0,[.list (([]:List MV)++([.agg (ay 3 ez 0 ([]:List UInt8) ([]:List MV) 0 0 ([]:List UInt8) GS 0 0 false 0 ([]:List UInt8) ([]:List MV))]:List MV))])) (
 some (0,[.list ([]:List MV)]))) λp4=>
 b5 (sh p4.1 0)<|
 gC p4.2 λm82 ad7=>
 gL m82 λHo=>
 gN ad7<|
 bd (tZ (.agg (bJ pV pW bg bh cg db ch)) (.agg [.i .i64 ei,.i .i64 cO,.s b9])) λcr=>
 gA cr λcs6=>
 di cs6 λSF2 ST2 cw cn fS bE LH=>
 some (0,(bl s8 s9 Me1 Ah oJ At1 n5 Hw Cj SF2 ST2 cw cn fS bE LH cy fh Ho))) (
 bd (
 aR (decide (Kind=3)) (
 bd (sm (.agg (bJ pV pW bg bh cg db ch)) (.i .i64 dU) (.list Proof)) λeU=>
 gA eU λcs7=>
 di cs7 λSF3 ST3 cT cU fV kT LI=>
 some (0,(al pR pS pT cq fN pU cc cf bK SF3 ST3 cT cU fV kT LI cy fh))) (
 bd (
 aR (decide (Kind=4)) (
 bd (JH (.agg [.i .i64 F,.i .i64 T]) (.i .i64 ez) (.agg (al pR pS pT cq fN pU cc cf bK pV pW bg bh cg db ch cy fh)) (.agg (cD Cf nY nZ iD eW eL))) λkP=>
 gL kP λFo=>
 some (0,(al pR pS pT cq fN pU cc cf bK pV pW bg bh cg db ch Fo fh))) (
 bd (
 aR (decide (Kind=5)) (
 bd (Gc (.agg (bJ pV pW bg bh cg db ch)) (.i .i64 dU) (.s Value)) λqm=>
 gA qm λcs8=>
 di cs8 λSF4 ST4 Hx Hy Wz adP LJ=>
 some (0,(al pR pS pT cq fN pU cc cf bK SF4 ST4 Hx Hy Wz adP LJ cy fh))) (
 some (0,(al pR pS pT cq fN pU cc cf bK pV pW bg bh cg db ch cy fh)))) λp7=>
 b5 (sh p7.1 0)<|
 dB .i64 .i64 .i64 .i64 .i64 .i64 .i64 .i64 p7.2 λI4 Jy I5 I6 I7 Jz JA JB JC JD JE Nu Q8 Q9 Ra x38 x39 x40=>
 some (0,(al I4 Jy I5 I6 I7 Jz JA JB JC JD JE Nu Q8 Q9 Ra x38 x39 x40)))) λp6=>
 b5 (sh p6.1 0)<|
 dB .i64 .i64 .i64 .i64 .i64 .i64 .i64 .i64 p6.2 λx41 x42 x43 x44 x45 x46 x47 x48 x49 x50 x51 x52 x53 x54 x55 x56 x57 x58=>
 some (0,(al x41 x42 x43 x44 x45 x46 x47 x48 x49 x50 x51 x52 x53 x54 x55 x56 x57 x58)))) λp5=>
 b5 (sh p5.1 0)<|
 dB .i64 .i64 .i64 .i64 .i64 .i64 .i64 .i64 p5.2 λx59 x60 x61 x62 x63 x64 x65 x66 x67 x68 x69 x70 x71 x72 x73 x74 x75 x76=>
 some (0,(bl x59 x60 x61 x62 x63 x64 x65 x66 x67 x68 x69 x70 x71 x72 x73 x74 x75 x76 ([]:List MV))))) λp3=>
 b5 (sh p3.1 0)<|
 dQ .i64 .i64 .i64 .i64 .i64 .i64 .i64 .i64 p3.2 λx77 x78 x79 x80 x81 x82 x83 x84 x85 x86 x87 x88 x89 x90 x91 x92 x93 x94 JG=>
 some (0,(bl x77 x78 x79 x80 x81 x82 x83 x84 x85 x86 x87 x88 x89 x90 x91 x92 x93 x94 JG)))) λp=>
 b5 (sh p.1 0)<|
 dQ .i64 .i64 .i64 .i64 .i64 .i64 .i64 .i64 p.2 λx95 x96 x97 x98 x99 adQ adR adS adT adU adV adW adX adY ZZ TG WB adZ Rc=>
 bd (
 aR ZZ (
 some [.b (!db)]) (
 some [.b false])) λpP=>
 gC pP λak9 WA=>
 gB ak9 λad0=>
 gN WA<|
 bd (
 aR ad0 (
 bB Rc λzv=>
 bB ([.agg (ay 5 ez 0 TG ([]:List MV) 0 0 ([]:List UInt8) ([]:List MV) 0 0 false 0 ([]:List UInt8) ([]:List MV))]:List MV) λxw=>
 b5 (decide ((zv+xw) *192<=2^46))<|
 some (0,[.list (Rc++([.agg (ay 5 ez 0 TG ([]:List MV) 0 0 ([]:List UInt8) ([]:List MV) 0 0 false 0 ([]:List UInt8) ([]:List MV))]:List MV))])) (
 some (0,[.list Rc]))) λp8=>
 b5 (sh p8.1 0)<|
 gC p8.2 λale alf=>
 gL ale λZY=>
 gN alf<|
 some (.cM [.agg (al x95 x96 x97 x98 x99 adQ adR adS adT adU adV adW adX adY ZZ TG WB adZ),.list ZY])
def PB:GT:=bt 16 (Hg Cp) T7
theorem NQ:SG PB:=pX Ru [] [] 126 [52,72,122] [] [] [(5,[0,1,2,3,4,5,6])] [(22,⟨[1,6,8,10,11],[21],[],[(0,[(115,.sc (.k .b))])],[21]⟩)] [(23,⟨[1,6,8],[],[],[(0,[(11,.sc (.own 21 71 true))])],[21]⟩),(9,⟨[1,6,8,10,13],[],[],[(0,[(11,.sc (.own 21 71 true))])],[21]⟩),(6,⟨[1,7,8,10],[],[],[(0,[(6,.box [.k (.i .i64),.k (.i .i64),.k (.i .i64),.k (.i .i64),.k .b,.k (.i .i64),.k .s,.k .l,.k .l,.k (.i .i64),.k (.i .i64),.k .l,.k .l,.k .l,.k .b,.k .s,.k .l,.k (.i .i64)]),(11,.sc (.own 21 71 true))])],[21]⟩),(14,⟨[1,6,7,8,10,16],[],[],[(0,[(11,.sc (.own 21 71 true))])],[21]⟩),(21,⟨[1,7,8,10,11],[21],[],[(0,[(6,.box [.k (.i .i64),.k (.i .i64),.k (.i .i64),.k (.i .i64),.k .b,.k (.i .i64),.k .s,.k .l,.k .l,.k (.i .i64),.k (.i .i64),.k .l,.k .l,.k .l,.k .b,.k .s,.k .l,.k (.i .i64)])])],[21]⟩),(19,⟨[1,4,7,8,10,11,23],[21],[],[(0,[(6,.box [.k (.i .i64),.k (.i .i64),.k (.i .i64),.k (.i .i64),.k .b,.k (.i .i64),.k .s,.k .l,.k .l,.k (.i .i64),.k (.i .i64),.k .l,.k .l,.k .l,.k .b,.k .s,.k .l,.k (.i .i64)])])],[21]⟩),(17,⟨[1,4,7,8,10,11,23],[21],[],[(0,[(6,.box [.k (.i .i64),.k (.i .i64),.k (.i .i64),.k (.i .i64),.k .b,.k (.i .i64),.k .s,.k .l,.k .l,.k (.i .i64),.k (.i .i64),.k .l,.k .l,.k .l,.k .b,.k .s,.k .l,.k (.i .i64)])])],[21]⟩),(11,⟨[1,4,7,8,10,23],[],[],[(0,[(6,.box [.k (.i .i64),.k (.i .i64),.k (.i .i64),.k (.i .i64),.k .b,.k (.i .i64),.k .s,.k .l,.k .l,.k (.i .i64),.k (.i .i64),.k .l,.k .l,.k .l,.k .b,.k .s,.k .l,.k (.i .i64)]),(11,.sc (.own 21 71 true))])],[21]⟩),(5,⟨[1,4,7,8,10,23],[],[],[(0,[(6,.box [.k (.i .i64),.k (.i .i64),.k (.i .i64),.k (.i .i64),.k .b,.k (.i .i64),.k .s,.k .l,.k .l,.k (.i .i64),.k (.i .i64),.k .l,.k .l,.k .l,.k .b,.k .s,.k .l,.k (.i .i64)]),(11,.sc (.own 21 71 true))])],[21]⟩)] [] [] Tryz.func16 (by kernel_rfl) (qj (λ_ _ _ _=>by kernel_rfl))
def Gd (m:MV):Option MV:=gA m λcs=>
 bS cs λKind dU View Value dX ei cO b9 Proof Cf nY nZ iD eW eL=>
 some (.agg (ay Kind dU View Value dX ei cO b9 Proof Cf nY nZ iD eW eL))
def Yn:GT:=bt 17 (iT Gd) PB
theorem T9:SG Yn:=ln NQ [] 20 [] [] [] Tryz.func17 (by kernel_rfl) (ct (λ_=>by kernel_rfl))
def Ge (a:MV):Option MV:=gA a λcs=>
 cJ cs λSF ST Me View Has At Value Proof cQ=>
 some (.agg (cD Me View Has At Value Proof))
def Ua:GT:=bt 122 (iT Ge) Yn
theorem Rv:SG Ua:=ln T9 [] 16 [] [] [] Tryz.func122 (by kernel_rfl) (ct (λ_=>by kernel_rfl))
def Cq (a view:MV):Option MV:=gA a λcs=>
 cJ cs λSF ST Me View Has At Value Proof cQ=>
 gI .i64 view λdZ=>
 bd (
 aR (decide (dZ<=View)) (
 some [.b true]) (
 some [.b (decide ((100000:Int)<dZ))])) λvs=>
 gC vs λm9 mX=>
 gB m9 λx=>
 gN mX<|
 aR x (
 some (.cM [.agg (br SF ST Me View Has At Value Proof cQ),.agg (cD 0 0 false 0 ([]:List UInt8) ([]:List MV)),.b false])) (
 bd (Ge (.agg (br SF ST Me dZ Has At Value Proof ([]:List MV)))) λrA=>
 gA rA λdu=>
 cL du λBy fP oJ b7 bc dS=>
 some (.cM [.agg (br SF ST Me dZ Has At Value Proof ([]:List MV)),.agg (cD By fP oJ b7 bc dS),.b true]))
def PC:GT:=bt 57 (eO Cq) Ua
theorem NR:SG PC:=pX Rv [] [] 35 [] [] [] [(4,[0,1,2,3,4,5])] [(1,⟨[1,2,4,5],[],[],[(0,[(15,.sc (.k .b))])],[]⟩)] [] [] [] Tryz.func57 (by kernel_rfl) (bG (λ_ _=>by kernel_rfl))
def zL (sA i n view:MV):Option MV:=gA sA λcs=>
 oT cs λF T=>
 gI .i64 i λi1=>
 gA n λdu=>
 aF du λpR pS pT cq fN pU cc cf bK pV pW bg bh cg db ch cy fh=>
 gI .i64 view λdZ=>
 bd (Cq (.agg (br pR pS pT cq fN pU cc cf bK)) (.i .i64 dZ)) λrA=>
 gT rA λvs=>
 gC vs λK5 kE=>
 gA K5 λiM=>
 cJ iM λSF ST Me View Has At Value Proof cQ=>
 gC kE λWs sW=>
 gA Ws λnn=>
 cL nn λBy fP oJ b7 bc dS=>
 gC sW λm37 K9=>
 gB m37 λx=>
 gN K9<|
 aR (!x) (
 some (.cM [.agg (al pR pS pT cq fN pU cc cf bK pV pW bg bh cg db ch cy fh),.list ([]:List MV)])) (
 both (
 some (.cM [.agg (al SF ST Me View Has At Value Proof cQ pV pW bg bh cg db ch ([]:List MV) fh),.list ([.agg (ay 4 0 0 ([]:List UInt8) ([]:List MV) 0 0 ([]:List UInt8) ([]:List MV) By fP oJ b7 bc dS)]:List MV)])) (
 some (.cM [.agg (al SF ST Me View Has At Value Proof cQ pV pW bg bh cg db ch ([]:List MV) fh),.list ([.agg (ay 4 0 0 ([]:List UInt8) ([]:List MV) 0 0 ([]:List UInt8) ([]:List MV) By fP oJ b7 bc dS)]:List MV)])))
def LV:GT:=bt 19 (Hg zL) PC
theorem LW:SG LV:=pX NR [] [] 31 [30] [28] [(2,[11])] [(6,[0,1,2,3,4,5,0,1,2,4,3,5,3,4])] [] [] [] [] Tryz.func19 (by kernel_rfl) (qj (λ_ _ _ _=>by kernel_rfl))
def Cr (sA i n want:MV):Option MV:=gA sA λcs=>
 oT cs λF T=>
 gI .i64 i λi1=>
 gA n λdu=>
 aF du λpR pS pT cq fN pU cc cf bK pV pW bg bh cg db ch cy fh=>
 gS want λai2=>
 bd (
 bd (rN (.agg [.i .i64 F,.i .i64 T]) (.i .i64 cq)) λrA=>
 gI .i64 rA λx=>
 aR (!decide (x=i1)) (
 some [.b true]) (
 some [.b (decide (cq<=fh))])) λvs=>
 gC vs λK5 kE=>
 gB K5 λx1=>
 gN kE<|
 aR x1 (
 some (.cM [.agg (al pR pS pT cq fN pU cc cf bK pV pW bg bh cg db ch cy fh),.list ([]:List MV)])) (
 bd (
 aR (decide ((0:Int)<cq)) (
 bd (Bv (.agg [.i .i64 F,.i .i64 T])) λaY=>
 gI .i64 aY λx2=>
 bB cy λlen=>
 aR (decide ((len:Int)<x2)) (
 some (1,(bl pR pS pT cq fN pU cc cf bK pV pW bg bh cg db ch cy fh ([]:List MV)))) (
 bB cy λdk=>
 b5 (decide ((0:Int)<=0/\(0:Int)<=x2/\x2<=(dk:Int)))<|
 bd (yE (.agg [.i .i64 F,.i .i64 T]) (.list (BY (AI 0) (IN (AI x2) cy)))) λbH=>
 gT bH λfO=>
 oSB fO λx3 x4=>
 bd (
 aR x4 (
 some (0,(ay 1 i1 cq x3 (BY (AI 0) (IN (AI x2) cy)) 0 0 ([]:List UInt8) ([]:List MV) 0 0 false 0 ([]:List UInt8) ([]:List MV)))) (
 some (0,(ay 1 i1 cq ai2 (BY (AI 0) (IN (AI x2) cy)) 0 0 ([]:List UInt8) ([]:List MV) 0 0 false 0 ([]:List UInt8) ([]:List MV))))) λp1=>
 b5 (sh p1.1 0)<|
 kD .i64 .i64 .i64 .i64 .i64 .i64 .i64 .i64 p1.2 λWr Tu ZT Ws m32 m34 m36 m38 m40 m42 m44 m46 m48 m50 m52=>
 some (0,[.i .i64 0,.i .i64 0,.i .i64 0,.i .i64 0,.b false,.i .i64 0,.s ([]:List UInt8),.list ([]:List MV),.list ([]:List MV),.i .i64 0,.i .i64 0,.list ([]:List MV),.list ([]:List MV),.list ([]:List MV),.b false,.s ([]:List UInt8),.list ([]:List MV),.i .i64 0,.i .i64 Wr,.i .i64 Tu,.i .i64 ZT,.s Ws,.list m32,.i .i64 m34,.i .i64 m36,.s m38,.list m40,.i .i64 m42,.i .i64 m44,.b m46,.i .i64 m48,.s m50,.list m52]))) (
 some (0,[.i .i64 0,.i .i64 0,.i .i64 0,.i .i64 0,.b false,.i .i64 0,.s ([]:List UInt8),.list ([]:List MV),.list ([]:List MV),.i .i64 0,.i .i64 0,.list ([]:List MV),.list ([]:List MV),.list ([]:List MV),.b false,.s ([]:List UInt8),.list ([]:List MV),.i .i64 0,.i .i64 1,.i .i64 i1,.i .i64 cq,.s ai2,.list ([]:List MV),.i .i64 0,.i .i64 0,.s ([]:List UInt8),.list ([]:List MV),.i .i64 0,.i .i64 0,.b false,.i .i64 0,.s ([]:List UInt8),.list ([]:List MV)]))) λp=>
 aR (sh p.1 1) (
 dQ .i64 .i64 .i64 .i64 .i64 .i64 .i64 .i64 p.2 λx5 x6 x7 x8 x9 ll lm mB lN nB pQ rh pa yT Eb GS Hj Fo I4=>
 some (.cM [.agg (al x5 x6 x7 x8 x9 ll lm mB lN nB pQ rh pa yT Eb GS Hj Fo),.list I4])) (
 b5 (sh p.1 0)<|
 gC p.2 λm72 aqE=>
 gI .i64 m72 λJy=>
 gC aqE λm73 Ub=>
 gI .i64 m73 λI5=>
 gC Ub λm74 aqF=>
 gI .i64 m74 λI6=>
 gC aqF λm75 aqG=>
 gI .i64 m75 λI7=>
 gC aqG λm76 ad4=>
 gB m76 λJz=>
 gC ad4 λm77 ad5=>
 gI .i64 m77 λJA=>
 gC ad5 λm78 TF=>
 gS m78 λJB=>
 gC TF λm79 ad8=>
 gL m79 λJC=>
 gC ad8 λm80 ad9=>
 gL m80 λJD=>
 gC ad9 λm81 aea=>
 gI .i64 m81 λJE=>
 gC aea λm82 aeb=>
 gI .i64 m82 λNu=>
 gC aeb λm83 aec=>
 gL m83 λQ8=>
 gC aec λm84 aed=>
 gL m84 λQ9=>
 gC aed λm85 T8=>
 gL m85 λRa=>
 gC T8 λm86 aee=>
 gB m86 λx38=>
 gC aee λm87 aef=>
 gS m87 λx39=>
 gC aef λm88 aeg=>
 gL m88 λx40=>
 gC aeg λm89 aeh=>
 gI .i64 m89 λx41=>
 bS aeh λm91 m93 m95 m97 m99 aqH aqI aqJ aqK aqL aqM aqN aqO aqP aqQ=>
 both (
 some (.cM [.agg (al pR pS pT cq fN pU cc cf bK pV pW bg bh cg db ch cy cq),.list ([.agg (ay m91 m93 m95 m97 m99 aqH aqI aqJ aqK aqL aqM aqN aqO aqP aqQ)]:List MV)])) (
 some (.cM [.agg (al pR pS pT cq fN pU cc cf bK pV pW bg bh cg db ch cy cq),.list ([.agg (ay m91 m93 m95 m97 m99 aqH aqI aqJ aqK aqL aqM aqN aqO aqP aqQ)]:List MV)]))))
def PD:GT:=bt 21 (Hg Cr) LV
theorem NS:SG PD:=pX LW [] [] 64 [63] [62] [(13,[11])] [(14,[0,1,2,3,4,0,1,3,2,4,2,3])] [(2,⟨[1,3,4,6,8,10],[],[],[(0,[(28,.sc (.k .b))])],[]⟩)] [(12,⟨[6,8,10,13],[],[],[(0,[(11,.box [.k (.i .i64),.k (.i .i64),.k (.i .i64),.k .s,.k .l,.k (.i .i64),.k (.i .i64),.k .s,.k .l,.k (.i .i64),.k (.i .i64),.k .b,.k (.i .i64),.k .s,.k .l])])],[]⟩),(6,⟨[4,6,10],[],[],[(0,[(8,.box [.k (.i .i64),.k (.i .i64),.k (.i .i64),.k (.i .i64),.k .b,.k (.i .i64),.k .s,.k .l,.k .l,.k (.i .i64),.k (.i .i64),.k .l,.k .l,.k .l,.k .b,.k .s,.k .l,.k (.i .i64)]),(11,.box [.k (.i .i64),.k (.i .i64),.k (.i .i64),.k .s,.k .l,.k (.i .i64),.k (.i .i64),.k .s,.k .l,.k (.i .i64),.k (.i .i64),.k .b,.k (.i .i64),.k .s,.k .l])]),(1,[(8,.box [.k (.i .i64),.k (.i .i64),.k (.i .i64),.k (.i .i64),.k .b,.k (.i .i64),.k .s,.k .l,.k .l,.k (.i .i64),.k (.i .i64),.k .l,.k .l,.k .l,.k .b,.k .s,.k .l,.k (.i .i64)]),(9,.sc (.k .l))])],[]⟩)] [] [] Tryz.func21 (by kernel_rfl) (qj (λ_ _ _ _=>by kernel_rfl))
def Bx (b:MV):Option MV:=gL b λb1=>
 bB b1 λlen=>
 aR (decide ((len:Int)=0)) (
 some (.cM [.i .u64 0,.list ([]:List MV),.i .i64 2])) (
 idx b1 0 λy=>
 gI .u8 y λx=>
 bd (
 aR (decide ((8:Int)<(fj .i64 x))) (
 some [.b true]) (
 aR (decide ((0:Int)<(fj .i64 x))) (
 bB b1 λdk=>
 aR (decide ((1:Int)<(dk:Int))) (
 idx b1 1 λy1=>
 gI .u8 y1 λx1=>
 some [.b (decide (x1=0))]) (
 some [.b false])) (
 some [.b false]))) λvs=>
 gC vs λm qC=>
 gB m λx2=>
 gN qC<|
 aR x2 (
 some (.cM [.i .u64 0,.list ([]:List MV),.i .i64 3])) (
 bB b1 λgj=>
 aR (decide ((gj:Int)<(fj .i64 (1+(fj .i64 x))))) (
 some (.cM [.i .u64 0,.list ([]:List MV),.i .i64 2])) (
 bd (Loop (λlY=>
 oII .u64 .i64 lY λn i=>
 aR (decide (i<=(fj .i64 x))) (
 idx b1 i λy2=>
 gI .u8 y2 λx3=>
 some (.inl [.i .u64 (fj .u64 ((fj .u64 (256 *n))+(fj .u64 x3))),.i .i64 (fj .i64 (i+1))])) (
 some (.inr (2,[.i .u64 n])))) [.i .u64 0,.i .i64 1]) λp=>
 b5 (sh p.1 2)<|
 gC p.2 λm3 qD=>
 gI .u64 m3 λn1=>
 gN qD<|
 b5 (oa 1 b1)<|
 bB b1 λrb=>
 b5 (decide ((0:Int)<=(fj .i64 (1+(fj .i64 x)))/\(fj .i64 (1+(fj .i64 x)))<=(rb:Int)/\(rb:Int)<=(rb:Int)))<|
 some (.cM [.i .u64 n1,.list (BY (AI (fj .i64 (1+(fj .i64 x)))) (IN (AI (rb:Int)) b1)),.i .i64 0]))))
def Uc:GT:=bt 172 (iT Bx) PD
theorem Rw:SG Uc:=pX NS [] [] 55 [] [] [] [(13,[0,1,2,3,4,5,6,7])] [(4,⟨[0,5],[],[],[(0,[(31,.sc (.k .b))])],[]⟩)] [] [(10,⟨[0,5],[],[(6,.sc (.k (.i .u64))),(7,.sc (.k (.i .i64)))],[(2,[(6,.sc (.k (.i .u64)))])],[]⟩)] [] Tryz.func172 (by kernel_rfl) (ct (λ_=>by kernel_rfl))
def wW (b:MV):Option MV:=gL b λb1=>
 bd (Bx (.list b1)) λrA=>
 gT rA λvs=>
 Wt .u64 .i64 vs λx x1 x2=>
 aR (!decide (x2=0)) (
 some (.cM [.i .i64 0,.list ([]:List MV),.i .i64 x2])) (
 b5 (!decide ((2:Int)=0))<|
 aR (decide ((aaI x 2)=1)) (
 b5 (!decide ((2:Int)=0))<|
 some (.cM [.i .i64 (fj .i64 ((fj .i64 (0-(fj .i64 (fj .u64 (aaH x 2)))))-1)),.list x1,.i .i64 0])) (
 b5 (!decide ((2:Int)=0))<|
 some (.cM [.i .i64 (fj .i64 (fj .u64 (aaH x 2))),.list x1,.i .i64 0])))
def Ix:GT:=bt 171 (iT wW) Uc
theorem Jl:SG Ix:=ln Rw [] 30 [] [] [] Tryz.func171 (by kernel_rfl) (ct (λ_=>by kernel_rfl))
def rO (b many:MV):Option MV:=gL b λb1=>
 gI .i64 many λmany1=>
 bd (Loop (λqC=>
 gC qC λm lY=>
 gL m λb2=>
 Dk lY λout i=>
 aR (decide (i<many1)) (
 bd (wW (.list b2)) λrA=>
 gT rA λvs=>
 akI vs λx x1 x2=>
 aR (!decide (x2=0)) (
 some (.inr (1,[.list ([]:List MV),.list ([]:List MV),.b false]))) (
 bB out λlen=>
 bB ([.i .i64 x]:List MV) λdk=>
 b5 (decide ((len+dk) *8<=2^46))<|
 some (.inl [.list x1,.list (out++([.i .i64 x]:List MV)),.i .i64 (fj .i64 (i+1))]))) (
 some (.inr (2,[.list b2,.list out])))) [.list b1,.list ([]:List MV),.i .i64 0]) λp=>
 aR (sh p.1 2) (
 gC p.2 λm6 rJ=>
 gL m6 λb3=>
 gC rJ λm7 rK=>
 gL m7 λLl=>
 gN rK<|
 some (.cM [.list Ll,.list b3,.b true])) (
 b5 (sh p.1 1)<|
 Tv p.2 λx3 x4 x5=>
 some (.cM [.list x3,.list x4,.b x5]))
def PE:GT:=bt 133 (eO rO) Ix
theorem NT:SG PE:=pX Jl [] [] 33 [28] [] [] [] [] [] [(3,⟨[1],[],[(0,.sc (.k .l)),(7,.sc (.own 12 3 true)),(8,.sc (.k (.i .i64)))],[(1,[(4,.sc (.k .l)),(5,.sc (.k .l)),(6,.sc (.k .b))]),(2,[(0,.sc (.k .l)),(7,.sc (.own 12 3 true))])],[12]⟩)] [] Tryz.func133 (by kernel_rfl) (bG (λ_ _=>by kernel_rfl))
def qV (b most:MV):Option MV:=gL b λb1=>
 gI .i64 most λadG=>
 bd (Bx (.list b1)) λrA=>
 gT rA λvs=>
 Wt .u64 .i64 vs λx x1 x2=>
 aR (!decide (x2=0)) (
 some (.cM [.s ([]:List UInt8),.list ([]:List MV),.i .i64 x2])) (
 aR (decide ((fj .u64 (imax adG 0))<x)) (
 some (.cM [.s ([]:List UInt8),.list ([]:List MV),.i .i64 5])) (
 bB x1 λlen=>
 aR (decide ((fj .u64 (len:Int))<x)) (
 some (.cM [.s ([]:List UInt8),.list ([]:List MV),.i .i64 2])) (
 bB x1 λdk=>
 b5 (decide ((0:Int)<=0/\(0:Int)<=x/\x<=(dk:Int)))<|
 Na (BY (AI 0) (IN (AI x) x1)) λbs=>
 b5 (oa 1 x1)<|
 bB x1 λgj=>
 b5 (decide ((0:Int)<=x/\x<=(gj:Int)/\(gj:Int)<=(gj:Int)))<|
 some (.cM [.s bs,.list (BY (AI x) (IN (AI (gj:Int)) x1)),.i .i64 0]))))
def Gf:GT:=bt 134 (eO qV) PE
theorem HB:SG Gf:=pX NT [] [] 36 [] [] [] [(8,[0,1,2,3,4,5,6,7,8,9])] [] [] [] [] Tryz.func134 (by kernel_rfl) (bG (λ_ _=>by kernel_rfl))
def zM (a:MV):Option MV:=gL a λa1=>
 bd (rO (.list a1) (.i .i64 1)) λrA=>
 gT rA λvs=>
 Tv vs λx x1 x2=>
 bd (
 aR (!x2) (
 some [.b true]) (
 idx x 0 λy=>
 gI .i64 y λx3=>
 aR (decide (x3<0)) (
 some [.b true]) (
 idx x 0 λy1=>
 gI .i64 y1 λx4=>
 some [.b (decide ((100:Int)<x4))]))) λfO=>
 gC fO λm3 rI=>
 gB m3 λx5=>
 gN rI<|
 aR x5 (
 some (.cM [.list ([]:List MV),.list ([]:List MV),.b false])) (
 idx x 0 λy2=>
 gI .i64 y2 λx6=>
 aR (decide (x6=0)) (
 some (.cM [.list ([]:List MV),.list x1,.b true])) (
 idx x 0 λy3=>
 gI .i64 y3 λx7=>
 bd (rO (.list x1) (.i .i64 x7)) λaY=>
 gT aY λpP=>
 Tv pP λx8 x9 ll=>
 aR (!ll) (
 some (.cM [.list ([]:List MV),.list ([]:List MV),.b false])) (
 bd (rO (.list x9) (.i .i64 1)) λbH=>
 gT bH λRf=>
 Tv Rf λlm mB lN=>
 aR (!lN) (
 some (.cM [.list ([]:List MV),.list ([]:List MV),.b false])) (
 bd (qV (.list mB) (.i .i64 6000)) λcr=>
 gT cr λvs4=>
 gC vs4 λEa mY=>
 gS Ea λnB=>
 Dk mY λpQ rh=>
 aR (!decide (rh=0)) (
 some (.cM [.list ([]:List MV),.list ([]:List MV),.b false])) (
 bd (Loop (λjJ=>
 Dk jJ λxs pa=>
 bB x8 λlen=>
 aR (decide (pa<(len:Int))) (
 idx x8 pa λy4=>
 gI .i64 y4 λyT=>
 idx lm 0 λy5=>
 gI .i64 y5 λEb=>
 bB xs λdk=>
 bB ([.agg [.i .i64 yT,.i .i64 Eb,.s nB]]:List MV) λgj=>
 b5 (decide ((dk+gj) *32<=2^46))<|
 some (.inl [.list (xs++([.agg [.i .i64 yT,.i .i64 Eb,.s nB]]:List MV)),.i .i64 (fj .i64 (pa+1))])) (
 some (.inr (2,[.list xs])))) [.list ([]:List MV),.i .i64 0]) λp=>
 b5 (sh p.1 2)<|
 gC p.2 λCM qN=>
 gL CM λAG=>
 gN qN<|
 some (.cM [.list AG,.list pQ,.b true]))))))
def LX:GT:=bt 135 (iT zM) Gf
theorem LY:SG LX:=pX HB [] [] 87 [83] [] [] [(19,[0,1,2,3,4,5,6,7,8,9,10,11,12])] [(2,⟨[5,6,7],[],[],[(0,[(33,.sc (.k .b))])],[66]⟩)] [] [(17,⟨[6,8,9,10],[],[(12,.sc (.own 66 58 true)),(13,.sc (.k (.i .i64)))],[(2,[(12,.sc (.own 66 58 true))])],[66]⟩)] [] Tryz.func135 (by kernel_rfl) (ct (λ_=>by kernel_rfl))
def Cs (t:MV):Option MV:=gA t λcs=>
 gC cs λm qC=>
 gL m λL=>
 gN qC<|
 bd (Loop (λlY=>
 gC lY λm1 jW=>
 gI .i64 m1 λi=>
 gN jW<|
 bB L λlen=>
 aR (decide (i<(len:Int))) (
 bd (
 idx L i λy=>
 gA y λdu=>
 eJ du λBy View Value=>
 bd (wU (.agg [.i .i64 By,.i .i64 View,.s Value])) λrA=>
 gB rA λx=>
 aR (!x) (
 some [.b true]) (
 aR (decide ((0:Int)<i)) (
 idx L (fj .i64 (i-1)) λy1=>
 gA y1 λiM=>
 eJ iM λvj b7 bc=>
 idx L i λy2=>
 gA y2 λnn=>
 eJ nn λSh j7 dG=>
 some [.b (decide (Sh<=vj))]) (
 some [.b false]))) λvs=>
 gC vs λFm gq=>
 gB Fm λx1=>
 gN gq<|
 aR x1 (
 some (.inr (1,[.b false]))) (
 some (.inl [.i .i64 (fj .i64 (i+1))]))) (
 some (.inr (2,[])))) [.i .i64 0]) λp=>
 aR (sh p.1 2) (
 gN p.2<|
 some (.b true)) (
 b5 (sh p.1 1)<|
 gC p.2 λvW jJ=>
 gB vW λx2=>
 gN jJ<|
 some (.b x2))
def PF:GT:=bt 173 (iT Cs) LX
theorem NU:SG PF:=pX LY [] [] 38 [] [] [] [(4,[0,1,2,3,4,5,6,7,8,9,10,11,12,13,14,15,16,17,18,19,20,21,22,23,24,25,26])] [(4,⟨[1,3],[],[],[(0,[(37,.sc (.k .b))])],[]⟩)] [] [(2,⟨[1],[],[(3,.sc (.k (.i .i64)))],[(1,[(2,.sc (.k .b))]),(2,[])],[]⟩)] [] Tryz.func173 (by kernel_rfl) (ct (λ_=>by kernel_rfl))
def Ct (a:MV):Option MV:=gA a λcs=>
 cJ cs λSF ST Me View Has At Value Proof cQ=>
 bd (Ck (.agg [.i .i64 SF,.i .i64 ST]) (.i .i64 Me)) λrA=>
 gT rA λvs=>
 gC vs λm9 mX=>
 gA m9 λdu=>
 cJ du λs8 s9 Me1 b7 oJ At1 bc dS Cj=>
 gC mX λNt mZ=>
 gI .i64 Nt λx=>
 gN mZ<|
 bd (
 aR (!decide (x=0)) (
 some [.b true]) (
 aR (decide (View<0)) (
 some [.b true]) (
 aR (decide ((100000:Int)<View)) (
 some [.b true]) (
 bd (Cs (.agg [.list cQ])) λaY=>
 gB aY λx1=>
 some [.b (!x1)])))) λfO=>
 gC fO λK5 kE=>
 gB K5 λx2=>
 gN kE<|
 aR x2 (
 some (.b false)) (
 bd (
 aR Has (
 aR (decide (At<0)) (
 some [.b true]) (
 aR (decide (View<At)) (
 some [.b true]) (
 aR (decide ((6000:Int)<(Value.length:Int))) (
 some [.b true]) (
 aR (!Has) (
 aR (!decide (At=0)) (
 some [.b true]) (
 some [.b (!decide (Value=([]:List UInt8)))])) (
 some [.b false]))))) (
 aR (!Has) (
 aR (!decide (At=0)) (
 some [.b true]) (
 some [.b (!decide (Value=([]:List UInt8)))])) (
 some [.b false]))) λpP=>
 gC pP λm21 vf=>
 gB m21 λx3=>
 gN vf<|
 aR x3 (
 some (.b false)) (
 bd (
 bB Proof λlen=>
 aR (decide ((0:Int)<(len:Int))) (
 bd (uv (.agg [.i .i64 SF,.i .i64 ST]) (.list Proof)) λbH=>
 gB bH λx4=>
 aR (!x4) (
 some [.b true]) (
 idx Proof 0 λy=>
 gA y λiM=>
 eJ iM λBy j7 dG=>
 some [.b (decide (View<j7))])) (
 some [.b false])) λRf=>
 gC Rf λm25 TB=>
 gB m25 λx5=>
 gN TB<|
 aR x5 (
 some (.b false)) (
 bd (Loop (λFM=>
 gC FM λTu Fs=>
 gI .i64 Tu λx6=>
 gN Fs<|
 bB cQ λdk=>
 aR (decide (x6<(dk:Int))) (
 bd (
 idx cQ x6 λy1=>
 gA y1 λnn=>
 eJ nn λvj Ah n5=>
 bd (Ai (.agg [.i .i64 SF,.i .i64 ST])) λcr=>
 gI .i64 cr λx7=>
 aR (decide (x7<=vj)) (
 some [.b true]) (
 idx cQ x6 λy2=>
 gA y2 λNF=>
 eJ NF λSh ad3 LH=>
 some [.b (!decide (ad3=View))])) λvs4=>
 gC vs4 λm33 TD=>
 gB m33 λx8=>
 gN TD<|
 aR x8 (
 some (.inr (1,[.b false]))) (
 some (.inl [.i .i64 (fj .i64 (x6+1))]))) (
 some (.inr (2,[])))) [.i .i64 0]) λp=>
 aR (sh p.1 2) (
 gN p.2<|
 some (.b true)) (
 b5 (sh p.1 1)<|
 gC p.2 λm34 LG=>
 gB m34 λx9=>
 gN LG<|
 some (.b x9)))))
def PG:GT:=bt 136 (iT Ct) PF
theorem NV:SG PG:=pX NU [] [] 120 [] [] [] [(6,[0,1,2,3,4,5,6,7,8,9,10,11,12,13,14,15,16,17,18,19,20,21]),(11,[0,1,2,3,4,5,6,7,8,9,10,11,12,13,14,15,16,17,18,19,20,21,22])] [(11,⟨[1,5],[],[],[(0,[(119,.sc (.k .b))])],[]⟩),(6,⟨[1],[],[],[(0,[(88,.sc (.k .b))])],[]⟩),(4,⟨[1],[],[],[(0,[(66,.sc (.k .b))])],[]⟩),(2,⟨[1,4],[],[],[(0,[(31,.sc (.k .b))])],[]⟩)] [] [(9,⟨[1],[],[(5,.sc (.k (.i .i64)))],[(1,[(2,.sc (.k .b))]),(2,[])],[]⟩)] [] Tryz.func136 (by kernel_rfl) (ct (λ_=>by kernel_rfl))
def Gg (a a1 a2:MV):Option MV:=gA a λcs=>
 oT cs λF T=>
 gI .i64 a1 λez=>
 gL a2 λLe=>
 bd (Ck (.agg [.i .i64 F,.i .i64 T]) (.i .i64 ez)) λrA=>
 gT rA λvs=>
 gC vs λm2 jW=>
 gA m2 λdu=>
 cJ du λSF ST Me View Has At Value Proof cQ=>
 gC jW λvW gq=>
 gI .i64 vW λx=>
 gN gq<|
 aR (!decide (x=0)) (
 some (.cM [.agg (br 0 0 0 0 false 0 ([]:List UInt8) ([]:List MV) ([]:List MV)),.i .i64 x])) (
 bd (rO (.list Le) (.i .i64 3)) λaY=>
 gT aY λfO=>
 Tv fO λx1 x2 x3=>
 bd (
 aR (!x3) (
 some [.b true]) (
 idx x1 1 λy=>
 gI .i64 y λx4=>
 aR (!decide (x4=0)) (
 idx x1 1 λy1=>
 gI .i64 y1 λx5=>
 some [.b (!decide (x5=1))]) (
 some [.b false]))) λpP=>
 gC pP λK4 qN=>
 gB K4 λx6=>
 gN qN<|
 aR x6 (
 some (.cM [.agg (br 0 0 0 0 false 0 ([]:List UInt8) ([]:List MV) ([]:List MV)),.i .i64 3])) (
 bd (qV (.list x2) (.i .i64 6000)) λbH=>
 gT bH λRf=>
 gC Rf λBk na=>
 gS Bk λx7=>
 Dk na λx8 x9=>
 aR (!decide (x9=0)) (
 some (.cM [.agg (br 0 0 0 0 false 0 ([]:List UInt8) ([]:List MV) ([]:List MV)),.i .i64 3])) (
 bd (zM (.list x8)) λcr=>
 gT cr λvs4=>
 Tv vs4 λll lm mB=>
 bd (
 aR (!mB) (
 some [.b true]) (
 bB lm λlen=>
 some [.b (decide ((0:Int)<(len:Int)))])) λvs5=>
 gC vs5 λm23 FC=>
 gB m23 λlN=>
 gN FC<|
 aR lN (
 some (.cM [.agg (br 0 0 0 0 false 0 ([]:List UInt8) ([]:List MV) ([]:List MV)),.i .i64 3])) (
 idx x1 0 λy2=>
 gI .i64 y2 λnB=>
 idx x1 1 λy3=>
 gI .i64 y3 λpQ=>
 idx x1 2 λy4=>
 gI .i64 y4 λrh=>
 bd (Ct (.agg (br SF ST Me nB (decide (pQ=1)) rh x7 ll cQ))) λeU=>
 gB eU λpa=>
 aR (!pa) (
 some (.cM [.agg (br 0 0 0 0 false 0 ([]:List UInt8) ([]:List MV) ([]:List MV)),.i .i64 3])) (
 some (.cM [.agg (br SF ST Me nB (decide (pQ=1)) rh x7 ll cQ),.i .i64 0]))))))
def Ud:GT:=bt 65 (uU Gg) PG
theorem Rx:SG Ud:=ln NV [] 91 [(11,⟨[6,8,10,11,12,13,14],[],[],[(0,[(67,.sc (.k .b))])],[]⟩),(5,⟨[6,8,10,11,12],[],[],[(0,[(44,.sc (.k .b))])],[]⟩)] [] [] Tryz.func65 (by kernel_rfl) (gQ (λ_ _ _=>by kernel_rfl))
def Gh (n:MV):Option MV:=gI .u64 n λn1=>
 bd (Loop (λqC=>
 oII .u64 .i64 qC λn2 k=>
 aR (decide ((0:Int)<n2)) (
 b5 (!decide ((256:Int)=0))<|
 some (.inl [.i .u64 (fj .u64 (aaH n2 256)),.i .i64 (fj .i64 (k+1))])) (
 some (.inr (2,[.i .i64 k])))) [.i .u64 n1,.i .i64 1]) λp=>
 b5 (sh p.1 2)<|
 gC p.2 λm2 rI=>
 gI .i64 m2 λk1=>
 gN rI<|
 some (.i .i64 k1)
def Ue:GT:=bt 188 (iT Gh) Ud
theorem Ry:SG Ue:=ln Rx [] 11 [] [] [(2,⟨[],[],[(0,.sc (.k (.i .u64))),(3,.sc (.k (.i .i64)))],[(2,[(3,.sc (.k (.i .i64)))])],[]⟩)] Tryz.func188 (by kernel_rfl) (ct (λ_=>by kernel_rfl))
def Cu (b n:MV):Option MV:=gL b λb1=>
 gI .u64 n λn1=>
 b5 (oa 1 b1)<|
 bB ([]:List MV) λlen=>
 bB b1 λdk=>
 b5 (decide ((len+dk) *1<=2^46))<|
 bd (Gh (.i .u64 n1)) λrA=>
 gI .i64 rA λx=>
 bB (([]:List MV)++b1) λgj=>
 bB ([.i .u8 (fj .u8 (fj .i64 (x-1)))]:List MV) λrb=>
 b5 (decide ((gj+rb) *1<=2^46))<|
 bd (Loop (λqC=>
 Dk qC λout i=>
 aR (decide ((0:Int)<=i)) (
 bd (Loop (λrI=>
 oII .u64 .i64 rI λx1 j=>
 aR (decide (j<i)) (
 b5 (!decide ((256:Int)=0))<|
 some (.inl [.i .u64 (fj .u64 (aaH x1 256)),.i .i64 (fj .i64 (j+1))])) (
 some (.inr (4,[.i .u64 x1])))) [.i .u64 n1,.i .i64 0]) λp1=>
 b5 (sh p1.1 4)<|
 gC p1.2 λm4 Hl=>
 gI .u64 m4 λx2=>
 gN Hl<|
 b5 (!decide ((256:Int)=0))<|
 bB out λzv=>
 bB ([.i .u8 (fj .u8 (aaI x2 256))]:List MV) λxw=>
 b5 (decide ((zv+xw) *1<=2^46))<|
 some (.inl [.list (out++([.i .u8 (fj .u8 (aaI x2 256))]:List MV)),.i .i64 (fj .i64 (i-1))])) (
 some (.inr (2,[.list out])))) [.list ((([]:List MV)++b1)++([.i .u8 (fj .u8 (fj .i64 (x-1)))]:List MV)),.i .i64 (fj .i64 ((fj .i64 (x-1))-1))]) λp=>
 b5 (sh p.1 2)<|
 gC p.2 λm5 rJ=>
 gL m5 λLl=>
 gN rJ<|
 some (.fresh Ll)
def Yo:GT:=bt 174 (eO Cu) Ue
theorem Uf:SG Yo:=fnF Ry 5 [] [] 42 [19,39] [] [] [] [] [] [(9,⟨[1,5,7],[10],[(8,.sc (.k (.i .u64))),(9,.sc (.k (.i .i64)))],[(4,[(8,.sc (.k (.i .u64)))])],[]⟩),(5,⟨[1],[],[(5,.sc (.own 10 5 false)),(7,.sc (.k (.i .i64)))],[(2,[(5,.sc (.own 10 5 false))])],[]⟩)] [] Tryz.func174 (by kernel_rfl) (by kernel_rfl) (bG (λ_ _=>by kernel_rfl))
def ua (b n:MV):Option MV:=gL b λb1=>
 gI .i64 n λn1=>
 aR (decide (n1<0)) (
 bd (Cu (.list b1) (.i .u64 (fj .u64 ((fj .u64 (2 *(fj .u64 (fj .i64 (0-(fj .i64 (n1+1)))))))+1)))) λrA=>
 gF rA λxs=>
 some (.fresh xs)) (
 bd (Cu (.list b1) (.i .u64 (fj .u64 (2 *(fj .u64 n1))))) λaY=>
 gF aY λAG=>
 some (.fresh AG))
def Yp:GT:=bt 137 (eO ua) Yo
theorem Ug:SG Yp:=fnF Uf 5 [] [] 20 [] [] [] [] [] [] [] [] Tryz.func137 (by kernel_rfl) (by kernel_rfl) (bG (λ_ _=>by kernel_rfl))
def Bz (b sA:MV):Option MV:=gL b λb1=>
 gS sA λCe=>
 bd (Cu (.list b1) (.i .u64 (fj .u64 (Ce.length:Int)))) λrA=>
 gF rA λxs=>
 bB xs λlen=>
 bB (M8 Ce) λdk=>
 b5 (decide ((len+dk) *1<=2^46))<|
 some (.fresh (xs++(M8 Ce)))
def Uh:GT:=bt 138 (eO Bz) Yp
theorem Rz:SG Uh:=fnF Ug 5 [] [] 14 [] [] [] [] [] [] [] [] Tryz.func138 (by kernel_rfl) (by kernel_rfl) (bG (λ_ _=>by kernel_rfl))
def Gi (a:MV):Option MV:=gA a λcs=>
 cJ cs λSF ST Me View Has At Value Proof cQ=>
 bd (
 aR Has (
 some (0,[.i .i64 1])) (
 some (0,[.i .i64 0]))) λp=>
 b5 (sh p.1 0)<|
 gC p.2 λm9 mX=>
 gI .i64 m9 λhas=>
 gN mX<|
 bd (ua (.list ([]:List MV)) (.i .i64 View)) λrA=>
 gF rA λxs=>
 bd (ua (.list xs) (.i .i64 has)) λaY=>
 gF aY λAG=>
 bd (ua (.list AG) (.i .i64 At)) λbH=>
 gF bH λHo=>
 bd (Bz (.list Ho) (.s Value)) λcr=>
 gF cr λJG=>
 bB Proof λlen=>
 bd (ua (.list JG) (.i .i64 (len:Int))) λeU=>
 gF eU λRc=>
 bd (Loop (λmY=>
 Dk mY λb i=>
 bB Proof λdk=>
 aR (decide (i<(dk:Int))) (
 idx Proof i λy=>
 gA y λdu=>
 eJ du λBy b7 bc=>
 bd (ua (.list b) (.i .i64 By)) λkP=>
 gF kP λZY=>
 some (.inl [.list ZY,.i .i64 (fj .i64 (i+1))])) (
 some (.inr (2,[.list b])))) [.list Rc,.i .i64 0]) λp1=>
 b5 (sh p1.1 2)<|
 gC p1.2 λCM qN=>
 gL CM λb1=>
 gN qN<|
 bB Proof λgj=>
 bd (
 aR (decide ((0:Int)<(gj:Int))) (
 idx Proof 0 λy1=>
 gA y1 λiM=>
 eJ iM λvj j7 dG=>
 bd (ua (.list b1) (.i .i64 j7)) λqm=>
 gF qm λxs6=>
 idx Proof 0 λy2=>
 gA y2 λnn=>
 eJ nn λSh Ah n5=>
 bd (Bz (.list xs6) (.s n5)) λA8=>
 gF A8 λxs7=>
 some (0,[.list xs7])) (
 some (0,[.list b1]))) λp2=>
 b5 (sh p2.1 0)<|
 gC p2.2 λm22 FC=>
 gL m22 λb2=>
 gN FC<|
 some (.list b2)
def Ui:GT:=bt 66 (iT Gi) Uh
theorem RB:SG Ui:=ln Rz [] 61 [] [(14,⟨[1],[],[],[(0,[(4,.sc (.own 26 5 true))])],[10,13,17,21,26,41,52,59]⟩),(3,⟨[1],[],[],[(0,[(3,.sc (.k (.i .i64)))])],[10,13,17,21,26,41,52,59]⟩)] [(10,⟨[1],[],[(4,.sc (.own 26 5 true)),(5,.sc (.k (.i .i64)))],[(2,[(4,.sc (.own 26 5 true))])],[10,13,17,21,26,41,52,59]⟩)] Tryz.func66 (by kernel_rfl) (ct (λ_=>by kernel_rfl))
def wX (sA i n:MV):Option MV:=gA sA λcs=>
 oT cs λF T=>
 gI .i64 i λi1=>
 gA n λdu=>
 aF du λpR pS pT cq fN pU cc cf bK pV pW bg bh cg db ch cy fh=>
 bd (Gi (.agg (br pR pS pT cq fN pU cc cf bK))) λrA=>
 gL rA λx=>
 bd (Gg (.agg [.i .i64 F,.i .i64 T]) (.i .i64 i1) (.list x)) λaY=>
 gT aY λvs=>
 gC vs λK5 kE=>
 gA K5 λiM=>
 cJ iM λSF ST Me View Has At Value Proof cQ=>
 gC kE λWs sW=>
 gI .i64 Ws λx1=>
 gN sW<|
 bd (FW (.agg [.i .i64 F,.i .i64 T])) λbH=>
 gT bH λfO=>
 gC fO λm31 Ls=>
 gA m31 λnn=>
 di nn λs8 s9 cw cn fS bE bc=>
 gC Ls λm39 Fy=>
 gI .i64 m39 λx2=>
 gN Fy<|
 some (.agg (al SF ST Me View Has At Value Proof cQ s8 s9 cw cn fS bE bc ([]:List MV) View))
def Iy:GT:=bt 23 (uU wX) Ui
theorem Jm:SG Iy:=pX RB [] [] 30 [] [] [] [(1,[0,1,2,3,4,5,6,7,8,9,10,11])] [] [] [] [] Tryz.func23 (by kernel_rfl) (gQ (λ_ _ _=>by kernel_rfl))
def JI (a b:MV):Option MV:=gA a λcs=>
 bS cs λKind dU View Value dX ei cO b9 Proof Cf nY nZ iD eW eL=>
 gA b λdu=>
 bS du λDy PH b7 bc PJ Cv uw rP dS Z4 PK PL HC Cw Cx=>
 bd (
 aR (decide (Kind=Dy)) (
 aR (decide (dU=PH)) (
 aR (decide (View=b7)) (
 aR (decide (Value=bc)) (
 some [.b ((decide (ei=Cv))&&((decide (cO=uw))&&(decide (b9=rP))))]) (
 some [.b false])) (
 some [.b false])) (
 some [.b false])) (
 some [.b false])) λvs=>
 gC vs λWs sW=>
 gB Ws λflat=>
 gN sW<|
 bd (
 aR flat (
 bd (Bt (.list dX) (.list PJ)) λrA=>
 gB rA λx=>
 aR x (
 bd (oL (.list Proof) (.list dS)) λaY=>
 gB aY λx1=>
 aR x1 (
 bd (FZ (.agg (cD Cf nY nZ iD eW eL)) (.agg (cD Z4 PK PL HC Cw Cx))) λbH=>
 gB bH λx2=>
 some [.b x2]) (
 some [.b false])) (
 some [.b false])) (
 some [.b false])) λfO=>
 gC fO λm31 Ls=>
 gB m31 λx3=>
 gN Ls<|
 some (.b x3)
def Yq:GT:=bt 67 (eO JI) Iy
theorem Uj:SG Yq:=ln Jm [] 61 [(2,⟨[2,3,5],[],[],[(0,[(4,.sc (.k .b))])],[]⟩),(1,⟨[2,3],[],[],[(0,[(5,.sc (.k .b))])],[]⟩)] [] [] Tryz.func67 (by kernel_rfl) (bG (λ_ _=>by kernel_rfl))
def Cy (a b:MV):Option MV:=gL a λa1=>
 gL b λb1=>
 bB a1 λlen=>
 bB b1 λdk=>
 aR (!decide ((len:Int)=(dk:Int))) (
 some (.b false)) (
 bd (Loop (λqC=>
 gC qC λm lY=>
 gI .i64 m λi=>
 gN lY<|
 bB a1 λgj=>
 aR (decide (i<(gj:Int))) (
 idx a1 i λy=>
 gA y λcs=>
 bS cs λKind dU View Value dX ei cO b9 Proof Cf nY nZ iD eW eL=>
 idx b1 i λy1=>
 gA y1 λdu=>
 bS du λDy PH b7 bc PJ Cv uw rP dS Z4 PK PL HC Cw Cx=>
 bd (JI (.agg (ay Kind dU View Value dX ei cO b9 Proof Cf nY nZ iD eW eL)) (.agg (ay Dy PH b7 bc PJ Cv uw rP dS Z4 PK PL HC Cw Cx))) λrA=>
 gB rA λx=>
 aR (!x) (
 some (.inr (1,[.b false]))) (
 some (.inl [.i .i64 (fj .i64 (i+1))]))) (
 some (.inr (2,[])))) [.i .i64 0]) λp=>
 aR (sh p.1 2) (
 gN p.2<|
 some (.b true)) (
 b5 (sh p.1 1)<|
 gC p.2 λm31 adJ=>
 gB m31 λx1=>
 gN adJ<|
 some (.b x1)))
def PM:GT:=bt 24 (eO Cy) Yq
theorem NW:SG PM:=pX Uj [] [] 27 [] [] [] [(6,[0,1,2,3,4,5,6,7,8,9])] [] [] [(4,⟨[0,1],[],[(5,.sc (.k (.i .i64)))],[(1,[(4,.sc (.k .b))]),(2,[])],[]⟩)] [] Tryz.func24 (by kernel_rfl) (bG (λ_ _=>by kernel_rfl))
def Gj (lA:MV):Option MV:=gL lA λBm=>
 bd (Loop (λqC=>
 Dk qC λout i=>
 bB Bm λlen=>
 aR (decide (i<(len:Int))) (
 idx Bm i λy=>
 gA y λcs=>
 bS cs λKind dU View Value dX ei cO b9 Proof Cf nY nZ iD eW eL=>
 bd (Gd (.agg (ay Kind dU View Value dX ei cO b9 Proof Cf nY nZ iD eW eL))) λrA=>
 gA rA λdu=>
 bS du λDy PH b7 bc PJ Cv uw rP dS Z4 PK PL HC Cw Cx=>
 bB out λdk=>
 bB ([.agg (ay Dy PH b7 bc PJ Cv uw rP dS Z4 PK PL HC Cw Cx)]:List MV) λgj=>
 b5 (decide ((dk+gj) *192<=2^46))<|
 some (.inl [.list (out++([.agg (ay Dy PH b7 bc PJ Cv uw rP dS Z4 PK PL HC Cw Cx)]:List MV)),.i .i64 (fj .i64 (i+1))])) (
 some (.inr (2,[.list out])))) [.list ([]:List MV),.i .i64 0]) λp=>
 b5 (sh p.1 2)<|
 gC p.2 λm32 aqR=>
 gL m32 λLl=>
 gN aqR<|
 some (.list Ll)
def Uk:GT:=bt 25 (iT Gj) PM
theorem RC:SG Uk:=pX NW [] [] 21 [18] [] [] [] [] [] [(3,⟨[0],[],[(3,.sc (.own 5 71 true)),(4,.sc (.k (.i .i64)))],[(2,[(3,.sc (.own 5 71 true))])],[5]⟩)] [] Tryz.func25 (by kernel_rfl) (ct (λ_=>by kernel_rfl))
def gW2:GT:=agR 72 Uk
theorem aei:dV Tryz.prog Yf gW2:=RC.alt adx
def qW (c:List MV)(lA:MV):Option MV:=gL lA λBm=>
 dW c λSF ST fW Want N cA=>
 bB Bm λlen=>
 bd (Loop (λHl=>
 gC Hl λm6 rJ=>
 gI .i64 m6 λx=>
 dW rJ λx1 x2 x3 x4 xs x5=>
 aR (decide (x<(len:Int))) (
 idx Bm x λy=>
 gA y λcs=>
 bS cs λKind dU View Value dX ei cO b9 Proof Cf nY nZ iD eW eL=>
 bB x5 λdk=>
 bd (
 aR (decide ((dk:Int)<400)) (
 both (
 bd (fA (.list x5)) λrA=>
 gCl rA λAG=>
 b5 (oa 15 AG)<|
 bB AG λgj=>
 bB ([.agg (ay Kind dU View Value dX ei cO b9 Proof Cf nY nZ iD eW eL)]:List MV) λrb=>
 b5 (decide (0<rb/\(gj+rb) *192<=2^46))<|
 some (0,(bx x1 x2 x3 x4 xs (AG++([.agg (ay Kind dU View Value dX ei cO b9 Proof Cf nY nZ iD eW eL)]:List MV))))) (
 bd (fA (.list x5)) λaY=>
 gCl aY λHo=>
 b5 (oa 15 Ho)<|
 bB Ho λzv=>
 bB ([.agg (ay Kind dU View Value dX ei cO b9 Proof Cf nY nZ iD eW eL)]:List MV) λxw=>
 b5 (decide (0<xw/\(zv+xw) *192<=2^46))<|
 some (0,(bx x1 x2 x3 x4 xs (Ho++([.agg (ay Kind dU View Value dX ei cO b9 Proof Cf nY nZ iD eW eL)]:List MV)))))) (
 some (0,(bx x1 x2 x3 x4 xs x5)))) λp1=>
 b5 (sh p1.1 0)<|
 ml .i64 .i64 p1.2 λx6 x7 x8 x9 JG ll=>
 some (.inl [.i .i64 (fj .i64 (x+1)),.i .i64 x6,.i .i64 x7,.list x8,.list x9,.list JG,.list ll])) (
 some (.inr (2,(bx x1 x2 x3 x4 xs x5))))) [.i .i64 0,.i .i64 SF,.i .i64 ST,.list fW,.list Want,.list N,.list cA]) λp=>
 b5 (sh p.1 2)<|
 ml .i64 .i64 p.2 λlm mB lN nB Rc pQ=>
 some (.gm (.cM []) (bx lm mB lN nB Rc pQ))
def BA:GT:=bt 72 (cl2 qW) gW2
theorem Ej:dV Tryz.prog Yf BA:=ady aei 0 aiZ [] [(0,1000000)] 30 [25,26] [] [] [(4,[0,1,2,3,4,6,5,7,8,9,10,11,0,1,2,3,4,6,7,5,8,9,10,11,5,7])] [] [(4,⟨[0,5,6,7,8],[],[],[(0,[(1000000,.box [.k (.i .i64),.k (.i .i64),.k .l,.k .l,.own 2000004 40 false,.k .l])])],[]⟩)] [(1,⟨[0,6,7],[],[(8,.sc (.k (.i .i64))),(1000000,.box [.k (.i .i64),.k (.i .i64),.k .l,.k .l,.own 2000004 40 false,.k .l])],[(2,[(1000000,.box [.k (.i .i64),.k (.i .i64),.k .l,.k .l,.own 2000004 40 false,.k .l])])],[]⟩)] [] Tryz.func72 (by kernel_rfl) (by kernel_rfl) (Wv λ_ _=>by kernel_rfl)
def lP (c:List MV)(i:MV)(n:MV)(said:MV):Option MV:=gI .i64 i λi1=>
 gA n λcs=>
 aF cs λpR pS pT cq fN pU cc cf bK pV pW bg bh cg db ch cy fh=>
 gL said λaqS=>
 dW c λSF ST fW Want N cA=>
 idx N i1 λy=>
 gA y λdu=>
 aF du λCQ CR CS n6 tC CT kh ki iF CU CV eX eY kj n7 jM CW CX=>
 bd (qW (bx SF ST fW Want (N.set (AI i1) (.agg (al pR pS pT cq fN pU cc cf bK pV pW bg bh cg db ch cy fh))) cA) (.list aqS)) λrA=>
 gW rA λx ls=>
 dW ls λs8 s9 LZ BB N1 BC=>
 some (.gm (.cM []) (bx s8 s9 LZ BB N1 BC))
def Dz:GT:=bt 141 (cl4 lP) BA
theorem Gk:dV Tryz.prog Yf Dz:=ady Ej 0 Ij [] [(0,1000000)] 18 [] [] [] [(1,[0,1,2,3,4,5,6,7])] [] [] [] [] Tryz.func141 (by kernel_rfl) (by kernel_rfl) (adA λ_ _ _ _=>by kernel_rfl)
def mu (c:List MV)(i:MV)(m:MV):Option MV:=gI .i64 i λi1=>
 gA m λcs=>
 bS cs λKind dU View Value dX ei cO b9 Proof Cf nY nZ iD eW eL=>
 dW c λSF ST fW Want N cA=>
 idx N i1 λy=>
 gA y λdu=>
 aF du λpR pS pT cq fN pU cc cf bK pV pW bg bh cg db ch cy fh=>
 bd (vu (.agg [.i .i64 SF,.i .i64 ST]) (.i .i64 i1) (.agg (al pR pS pT cq fN pU cc cf bK pV pW bg bh cg db ch cy fh)) (.agg (ay Kind dU View Value dX ei cO b9 Proof Cf nY nZ iD eW eL))) λrA=>
 gT rA λvs=>
 gC vs λm40 Fy=>
 gA m40 λiM=>
 aF iM λCQ CR CS n6 tC CT kh ki iF CU CV eX eY kj n7 jM CW CX=>
 gC Fy λm59 Ub=>
 gL m59 λx=>
 gN Ub<|
 bd (lP (bx SF ST fW Want N cA) (.i .i64 i1) (.agg (al CQ CR CS n6 tC CT kh ki iF CU CV eX eY kj n7 jM CW CX)) (.list x)) λaY=>
 gW aY λx1 ls=>
 dW ls λs8 s9 LZ BB N1 BC=>
 some (.gm (.cM []) (bx s8 s9 LZ BB N1 BC))
def wY:GT:=bt 75 (cl3 mu) Dz
theorem Aw:dV Tryz.prog Yf wY:=ady Gk 0 Ij [] [(0,1000000)] 30 [] [] [] [(1,[0,1,2,3,4,5,6,7,8,9,10,11,12,13,14,15,16,17,18,19])] [] [] [] [] Tryz.func75 (by kernel_rfl) (by kernel_rfl) (adz λ_ _ _=>by kernel_rfl)
def oX (c:List MV)(i:MV)(view:MV):Option MV:=gI .i64 i λi1=>
 gI .i64 view λdZ=>
 dW c λSF ST fW Want N cA=>
 idx N i1 λy=>
 gA y λcs=>
 aF cs λpR pS pT cq fN pU cc cf bK pV pW bg bh cg db ch cy fh=>
 bd (s5 (.agg [.i .i64 SF,.i .i64 ST]) (.i .i64 i1) (.agg (al pR pS pT cq fN pU cc cf bK pV pW bg bh cg db ch cy fh)) (.i .i64 dZ)) λrA=>
 gT rA λvs=>
 gC vs λWr FL=>
 gA Wr λdu=>
 aF du λCQ CR CS n6 tC CT kh ki iF CU CV eX eY kj n7 jM CW CX=>
 gC FL λm43 Lf=>
 gL m43 λx=>
 gN Lf<|
 bd (lP (bx SF ST fW Want N cA) (.i .i64 i1) (.agg (al CQ CR CS n6 tC CT kh ki iF CU CV eX eY kj n7 jM CW CX)) (.list x)) λaY=>
 gW aY λx1 ls=>
 dW ls λs8 s9 LZ BB N1 BC=>
 some (.gm (.cM []) (bx s8 s9 LZ BB N1 BC))
def Aj:GT:=bt 76 (cl3 oX) wY
theorem CY:dV Tryz.prog Yf Aj:=ady Aw 0 Ij [] [(0,1000000)] 30 [] [] [] [(0,[0,1,2,3,4,5,6,7,8,9,10,11,12,13,14,15,16,17,18,19])] [] [] [] [] Tryz.func76 (by kernel_rfl) (by kernel_rfl) (adz λ_ _ _=>by kernel_rfl)
def qX (c:List MV)(i:MV):Option MV:=gI .i64 i λi1=>
 dW c λSF ST fW Want N cA=>
 idx N i1 λy=>
 gA y λcs=>
 aF cs λpR pS pT cq fN pU cc cf bK pV pW bg bh cg db ch cy fh=>
 idx Want i1 λy1=>
 gS y1 λx=>
 bd (vv (.agg [.i .i64 SF,.i .i64 ST]) (.i .i64 i1) (.agg (al pR pS pT cq fN pU cc cf bK pV pW bg bh cg db ch cy fh)) (.s x)) λrA=>
 gT rA λvs=>
 gC vs λWr FL=>
 gA Wr λdu=>
 aF du λCQ CR CS n6 tC CT kh ki iF CU CV eX eY kj n7 jM CW CX=>
 gC FL λm43 Lf=>
 gL m43 λx1=>
 gN Lf<|
 bd (lP (bx SF ST fW Want N cA) (.i .i64 i1) (.agg (al CQ CR CS n6 tC CT kh ki iF CU CV eX eY kj n7 jM CW CX)) (.list x1)) λaY=>
 gW aY λx2 ls=>
 dW ls λs8 s9 LZ BB N1 BC=>
 some (.gm (.cM []) (bx s8 s9 LZ BB N1 BC))
def BD:GT:=bt 77 (cl2 qX) Aj
theorem Ek:dV Tryz.prog Yf BD:=ady CY 0 Ij [] [(0,1000000)] 34 [] [] [] [(0,[0,1,2,3,4,5,6,7,8,9,10,11,12,13,14,15,16,17,18,19,20,21,22,23,24,25])] [] [] [] [] Tryz.func77 (by kernel_rfl) (by kernel_rfl) (Wv λ_ _=>by kernel_rfl)
def gW1:GT:=agR 72 BD
theorem aej:SG gW1:=Ek.alt akR
def sn (c:List MV)(lA:MV):Option MV:=gL lA λBm=>
 dW c λSF ST fW Want N cA=>
 bB Bm λlen=>
 bd (Loop (λHl=>
 gC Hl λm6 rJ=>
 gI .i64 m6 λx=>
 dW rJ λx1 x2 x3 x4 x5 x6=>
 aR (decide (x<(len:Int))) (
 idx Bm x λy=>
 gA y λcs=>
 bS cs λKind dU View Value dX ei cO b9 Proof Cf nY nZ iD eW eL=>
 bB x6 λdk=>
 bd (
 aR (decide ((dk:Int)<400)) (
 both (
 bd (fA (.list x6)) λrA=>
 gCl rA λxs=>
 b5 (oa 15 xs)<|
 bB xs λgj=>
 bB ([.agg (ay Kind dU View Value dX ei cO b9 Proof Cf nY nZ iD eW eL)]:List MV) λrb=>
 b5 (decide (0<rb/\(gj+rb) *192<=2^46))<|
 some (0,(bx x1 x2 x3 x4 x5 (xs++([.agg (ay Kind dU View Value dX ei cO b9 Proof Cf nY nZ iD eW eL)]:List MV))))) (
 bd (fA (.list x6)) λaY=>
 gCl aY λAG=>
 b5 (oa 15 AG)<|
 bB AG λzv=>
 bB ([.agg (ay Kind dU View Value dX ei cO b9 Proof Cf nY nZ iD eW eL)]:List MV) λxw=>
 b5 (decide (0<xw/\(zv+xw) *192<=2^46))<|
 some (0,(bx x1 x2 x3 x4 x5 (AG++([.agg (ay Kind dU View Value dX ei cO b9 Proof Cf nY nZ iD eW eL)]:List MV)))))) (
 some (0,(bx x1 x2 x3 x4 x5 x6)))) λp1=>
 b5 (sh p1.1 0)<|
 ml .i64 .i64 p1.2 λx7 x8 x9 ll lm mB=>
 some (.inl [.i .i64 (fj .i64 (x+1)),.i .i64 x7,.i .i64 x8,.list x9,.list ll,.list lm,.list mB])) (
 some (.inr (2,(bx x1 x2 x3 x4 x5 x6))))) [.i .i64 0,.i .i64 SF,.i .i64 ST,.list fW,.list Want,.list N,.list cA]) λp=>
 b5 (sh p.1 2)<|
 ml .i64 .i64 p.2 λlN nB pQ rh pa yT=>
 some (.gm (.cM []) (bx lN nB pQ rh pa yT))
def DA:GT:=bt 72 (cl2 sn) gW1
theorem Gl:SG DA:=fnC aej 0 aiY [] [(0,1000000)] 30 [25,26] [] [] [(4,[0,1,2,3,4,6,5,7,8,9,10,11,0,1,2,3,4,6,7,5,8,9,10,11,5,7])] [] [(4,⟨[0,5,6,7,8],[],[],[(0,[(1000000,.box [.k (.i .i64),.k (.i .i64),.k .l,.k .l,.k .l,.k .l])])],[]⟩)] [(1,⟨[0,6,7],[],[(8,.sc (.k (.i .i64))),(1000000,.box [.k (.i .i64),.k (.i .i64),.k .l,.k .l,.k .l,.k .l])],[(2,[(1000000,.box [.k (.i .i64),.k (.i .i64),.k .l,.k .l,.k .l,.k .l])])],[]⟩)] [] Tryz.func72 (by kernel_rfl) (by kernel_rfl) (Wv λ_ _=>by kernel_rfl)
def ux (a a1:MV):Option MV:=gA a λcs=>
 dW cs λSF ST fW Want N cA=>
 gA a1 λdu=>
 nX du λKind I J Pb Pc Pd zw Fq Cd uq pc Ed ZX Pe Pf Hm zx zy=>
 aR (decide (Kind=3)) (
 bd (zG (.agg (bx SF ST fW Want N cA)) (.agg (ay Pb Pc Pd zw Fq Cd uq pc Ed ZX Pe Pf Hm zx zy))) λrA=>
 gB rA λx=>
 bd (
 aR x (
 bd (sn (bx SF ST fW Want N cA) (.list ([.agg (ay Pb Pc Pd zw Fq Cd uq pc Ed ZX Pe Pf Hm zx zy)]:List MV))) λaY=>
 gW aY λx1 ls=>
 dW ls λs8 s9 LZ BB N1 BC=>
 some (0,(bx s8 s9 LZ BB N1 BC))) (
 some (0,(bx SF ST fW Want N cA)))) λp=>
 b5 (sh p.1 0)<|
 ml .i64 .i64 p.2 λx2 x3 x4 x5 x6 x7=>
 some (.agg (bx x2 x3 x4 x5 x6 x7))) (
 bd (gd (.agg (bx SF ST fW Want N cA)) (.i .i64 I) (.b false)) λbH=>
 gB bH λx8=>
 aR (!x8) (
 some (.agg (bx SF ST fW Want N cA))) (
 bd (jT 18 256 [.list N]) λcr=>
 gF cr λxs=>
 bd (
 aR (decide (Kind=0)) (
 bd (
 aR (decide ((0:Int)<=J)) (
 bB cA λlen=>
 some [.b (decide (J<(len:Int)))]) (
 some [.b false])) λvs=>
 gC vs λm36 K8=>
 gB m36 λx9=>
 gN K8<|
 bd (
 aR x9 (
 idx cA J λy=>
 gA y λiM=>
 bS iM λDy dU View Value dX ei cO b9 Proof Cf nY nZ iD eW eL=>
 bd (mu (bx SF ST fW Want xs cA) (.i .i64 I) (.agg (ay Dy dU View Value dX ei cO b9 Proof Cf nY nZ iD eW eL))) λeU=>
 gW eU λll ls1=>
 dW ls1 λSF2 ST2 alg aek N2 ael=>
 some (0,(bx SF2 ST2 alg aek N2 ael))) (
 some (0,(bx SF ST fW Want xs cA)))) λp2=>
 b5 (sh p2.1 0)<|
 ml .i64 .i64 p2.2 λlm mB lN nB AG pQ=>
 some (0,(bx lm mB lN nB AG pQ))) (
 bd (
 aR (decide (Kind=1)) (
 idx xs I λy1=>
 gA y1 λnn=>
 aF nn λpR pS pT cq fN pU cc cf bK pV pW bg bh cg db ch cy fh=>
 bd (oX (bx SF ST fW Want xs cA) (.i .i64 I) (.i .i64 (fj .i64 (cq+1)))) λkP=>
 gW kP λrh ls2=>
 dW ls2 λSF3 ST3 alh aem N3 aen=>
 some (0,(bx SF3 ST3 alh aem N3 aen))) (
 bd (
 aR (decide (Kind=2)) (
 bd (qX (bx SF ST fW Want xs cA) (.i .i64 I)) λqm=>
 gW qm λpa ls3=>
 dW ls3 λSF4 ST4 awZ aqT N4 aqU=>
 some (0,(bx SF4 ST4 awZ aqT N4 aqU))) (
 bd (
 aR (decide (Kind=4)) (
 idx xs I λy2=>
 gA y2 λNF=>
 aF NF λCQ CR CS n6 tC CT kh ki iF CU CV eX eY kj n7 jM CW CX=>
 bd (qI (.agg [.i .i64 SF,.i .i64 ST]) (.i .i64 I) (.agg (al CQ CR CS n6 tC CT kh ki iF CU CV eX eY kj n7 jM CW CX))) λA8=>
 gA A8 λcs5=>
 aF cs5 λali alj alk WD aeo alm RD RE L0 aln alo El Em RF WE RG alp alq=>
 idx xs I λy3=>
 gA y3 λcs6=>
 aF cs6 λalr als alu WG aep alv RH RI L1 alw alx En Eo RJ WH RL aly alz=>
 some (0,(bx SF ST fW Want (xs.set (AI I) (.agg (al ali alj alk WD aeo alm RD RE L0 aln alo El Em RF WE RG alp alq))) cA))) (
 some (0,(bx SF ST fW Want xs cA)))) λp5=>
 b5 (sh p5.1 0)<|
 ml .i64 .i64 p5.2 λyT Eb GS Hj Ho Fo=>
 some (0,(bx yT Eb GS Hj Ho Fo)))) λp4=>
 b5 (sh p4.1 0)<|
 ml .i64 .i64 p4.2 λI4 Jy I5 I6 JG I7=>
 some (0,(bx I4 Jy I5 I6 JG I7)))) λp3=>
 b5 (sh p3.1 0)<|
 ml .i64 .i64 p3.2 λJz JA JB JC Rc JD=>
 some (0,(bx Jz JA JB JC Rc JD)))) λp1=>
 b5 (sh p1.1 0)<|
 ml .i64 .i64 p1.2 λJE Nu Q8 Q9 ZY Ra=>
 some (.agg (bx JE Nu Q8 Q9 ZY Ra))))
def PN:GT:=bt 29 (eO ux) DA
theorem NX:SG PN:=pX Gl [] [] 96 [17] [] [] [(12,[0,1,2,3,4,5,6,7,8,9]),(14,[0,1,2,3,4,5,6,7,8,9,10,11,12]),(18,[0,1,2,3,4,5,6,7,8,9,10,11,12,13,14,15,16])] [(11,⟨[2,3,4],[29],[],[(0,[(45,.sc (.k .b)),(5,.pt 2 0)])],[]⟩)] [(12,⟨[3,4],[],[],[(0,[(2,.box [.k (.i .i64),.k (.i .i64),.k .l,.k .l,.own 29 40 false,.k .l]),(5,.pt 2 0)])],[]⟩),(18,⟨[3,4],[],[],[(0,[(2,.box [.k (.i .i64),.k (.i .i64),.k .l,.k .l,.own 29 40 false,.k .l]),(5,.pt 2 0)])],[2000004]⟩),(16,⟨[3,4,32],[],[],[(0,[(2,.box [.k (.i .i64),.k (.i .i64),.k .l,.k .l,.own 29 40 false,.k .l]),(5,.pt 2 0)])],[]⟩),(14,⟨[3,4,32],[],[],[(0,[(2,.box [.k (.i .i64),.k (.i .i64),.k .l,.k .l,.own 29 40 false,.k .l]),(5,.pt 2 0)])],[]⟩),(11,⟨[3,4,32],[],[],[(0,[(2,.box [.k (.i .i64),.k (.i .i64),.k .l,.k .l,.own 29 40 false,.k .l]),(5,.pt 2 0)])],[]⟩),(4,⟨[3,4,5],[],[],[(0,[(2,.box [.k (.i .i64),.k (.i .i64),.k .l,.k .l,.k .l,.k .l])])],[]⟩)] [] [] Tryz.func29 (by kernel_rfl) (bG (λ_ _=>by kernel_rfl))
def uy:Option MV:=b5 (decide ((0:Int)<=4/\(4:Int)=4/\(4:Int) *1<=2^46))<| bd (Fx (.agg [.i .i64 1,.i .i64 0]) (.list (aav (AI 4) (.b false))) (.list ([.s ([97]:List UInt8),.s ([98]:List UInt8),.s ([99]:List UInt8),.s ([100]:List UInt8)]:List MV))) λrA=>
 gT rA λvs=>
 gC vs λm qC=>
 gA m λcs=>
 dW cs λSF ST fW Want N cA=>
 gC qC λm7 rJ=>
 gI .i64 m7 λx=>
 gN rJ<|
 bd (ux (.agg (bx SF ST fW Want N cA)) (.agg [.i .i64 2,.i .i64 0,.i .i64 0,.i .i64 0,.i .i64 0,.i .i64 0,.s ([]:List UInt8),.list ([]:List MV),.i .i64 0,.i .i64 0,.s ([]:List UInt8),.list ([]:List MV),.i .i64 0,.i .i64 0,.b false,.i .i64 0,.s ([]:List UInt8),.list ([]:List MV)])) λaY=>
 gA aY λdu=>
 dW du λs8 s9 LZ BB N1 BC=>
 bd (Loop (λox=>
 gC ox λBj lD=>
 gI .i64 Bj λc=>
 gC lD λCM qN=>
 gI .i64 CM λc1=>
 gC qN λK4 na=>
 gL K4 λc2=>
 gC na λBk jK=>
 gL Bk λc3=>
 gC jK λHi mZ=>
 gL Hi λc4=>
 Dk mZ λc5 i=>
 aR (decide (i<4)) (
 bd (ux (.agg (bx c c1 c2 c3 c4 c5)) (.agg [.i .i64 0,.i .i64 i,.i .i64 0,.i .i64 0,.i .i64 0,.i .i64 0,.s ([]:List UInt8),.list ([]:List MV),.i .i64 0,.i .i64 0,.s ([]:List UInt8),.list ([]:List MV),.i .i64 0,.i .i64 0,.b false,.i .i64 0,.s ([]:List UInt8),.list ([]:List MV)])) λbH=>
 gA bH λiM=>
 dW iM λSF2 ST2 alg aek N2 ael=>
 some (.inl [.i .i64 SF2,.i .i64 ST2,.list alg,.list aek,.list N2,.list ael,.i .i64 (fj .i64 (i+1))])) (
 some (.inr (2,(bx c c1 c2 c3 c4 c5))))) [.i .i64 s8,.i .i64 s9,.list LZ,.list BB,.list N1,.list BC,.i .i64 0]) λp=>
 b5 (sh p.1 2)<|
 ml .i64 .i64 p.2 λc6 c7 c8 c9 c10 c11=>
 bd (Loop (λTD=>
 gC TD λm33 LG=>
 gI .i64 m33 λc12=>
 gC LG λm34 K8=>
 gI .i64 m34 λc13=>
 gC K8 λm35 K9=>
 gL m35 λc14=>
 gC K9 λm36 adB=>
 gL m36 λc15=>
 gC adB λm37 Fy=>
 gL m37 λc16=>
 Dk Fy λc17 i1=>
 aR (decide (i1<5)) (
 bd (ux (.agg (bx c12 c13 c14 c15 c16 c17)) (.agg [.i .i64 0,.i .i64 2,.i .i64 i1,.i .i64 0,.i .i64 0,.i .i64 0,.s ([]:List UInt8),.list ([]:List MV),.i .i64 0,.i .i64 0,.s ([]:List UInt8),.list ([]:List MV),.i .i64 0,.i .i64 0,.b false,.i .i64 0,.s ([]:List UInt8),.list ([]:List MV)])) λcr=>
 gA cr λnn=>
 dW nn λSF3 ST3 alh aem N3 aen=>
 some (.inl [.i .i64 SF3,.i .i64 ST3,.list alh,.list aem,.list N3,.list aen,.i .i64 (fj .i64 (i1+1))])) (
 some (.inr (4,(bx c12 c13 c14 c15 c16 c17))))) [.i .i64 c6,.i .i64 c7,.list c8,.list c9,.list c10,.list c11,.i .i64 1]) λp1=>
 b5 (sh p1.1 4)<|
 ml .i64 .i64 p1.2 λc18 c19 c20 c21 c22 c23=>
 bd (qU (.agg (bx c18 c19 c20 c21 c22 c23)) (.i .i64 2)) λeU=>
 gT eU λfO=>
 oSB fO λx1 x2=>
 bd (qU (.agg (bx c18 c19 c20 c21 c22 c23)) (.i .i64 1)) λkP=>
 gT kP λpP=>
 oSB pP λx3 x4=>
 bd (
 aR (decide (x=0)) (
 aR x2 (
 aR (decide (x1=([97]:List UInt8))) (
 some [.b (!x4)]) (
 some [.b false])) (
 some [.b false])) (
 some [.b false])) λRf=>
 gC Rf λm56 Ub=>
 gB m56 λx5=>
 gN Ub<|
 some (.b x5)
def PO:GT:=bt 9 (akz uy) PN
theorem NY:SG PO:=pX NX [] [] 58 [12] [] [] [] [(13,⟨[2,5,6,8],[],[],[(0,[(0,.sc (.k .b))])],[11]⟩)] [] [(8,⟨[2],[],[(1,.box [.k (.i .i64),.k (.i .i64),.k .l,.k .l,.k .l,.k .l]),(4,.sc (.k (.i .i64)))],[(4,[(1,.box [.k (.i .i64),.k (.i .i64),.k .l,.k .l,.k .l,.k .l])])],[11]⟩),(4,⟨[2],[],[(1,.box [.k (.i .i64),.k (.i .i64),.k .l,.k .l,.k .l,.k .l]),(3,.sc (.k (.i .i64)))],[(2,[(1,.box [.k (.i .i64),.k (.i .i64),.k .l,.k .l,.k .l,.k .l])])],[11]⟩)] [] Tryz.func9 (by kernel_rfl) (ag9 (by kernel_rfl))
def xD (a a1 a2:MV):Option MV:=gA a λcs=>
 gC cs λm qC=>
 gI .i64 m λSF=>
 gC qC λm1 lY=>
 gI .i64 m1 λST=>
 gC lY λm2 jW=>
 gL m2 λfW=>
 gC jW λm3 rI=>
 gL m3 λWant=>
 gN rI<|
 gI .i64 a1 λez=>
 gL a2 λLe=>
 bd (Cc (.agg [.i .i64 SF,.i .i64 ST,.list fW,.list Want]) (.list Le)) λrA=>
 gB rA λx=>
 aR (!x) (
 bd (uy) λaY=>
 gB aY λx1=>
 some (.b x1)) (
 bd (ve (.agg [.i .i64 SF,.i .i64 ST]) (.i .i64 ez)) λbH=>
 gT bH λvs=>
 gC vs λm4 qD=>
 gA m4 λdu=>
 aF du λpR pS pT cq fN pU cc cf bK pV pW bg bh cg db ch cy fh=>
 gC qD λm23 FC=>
 gI .i64 m23 λx2=>
 gN FC<|
 bd (lO (.agg [.i .i64 SF,.i .i64 ST])) λcr=>
 gA cr λiM=>
 oT iM λF T=>
 bd (Cl (.agg [.i .i64 F,.i .i64 T]) (.i .i64 ez)) λeU=>
 gT eU λfO=>
 gC fO λTu FM=>
 gA Tu λnn=>
 aF nn λCQ CR CS n6 tC CT kh ki iF CU CV eX eY kj n7 jM CW CX=>
 gC FM λm45 Lg=>
 gI .i64 m45 λx3=>
 gN Lg<|
 bd (
 aR (!decide (x2=x3)) (
 some [.b true]) (
 bd (Bu (.agg (al pR pS pT cq fN pU cc cf bK pV pW bg bh cg db ch cy fh))) λkP=>
 gA kP λNF=>
 aF NF λali alj alk WD aeo alm RD RE L0 aln alo El Em RF WE RG alp alq=>
 bd (yD (.agg (al ali alj alk WD aeo alm RD RE L0 aln alo El Em RF WE RG alp alq)) (.agg (al CQ CR CS n6 tC CT kh ki iF CU CV eX eY kj n7 jM CW CX))) λqm=>
 gB qm λx4=>
 some [.b (!x4)])) λpP=>
 gC pP λm64 ad8=>
 gB m64 λx5=>
 gN ad8<|
 aR x5 (
 some (.b false)) (
 aR (!decide (x2=0)) (
 bd (uy) λA8=>
 gB A8 λx6=>
 some (.b x6)) (
 bd (Loop (λad9=>
 gC ad9 λm65 aea=>
 gI .i64 m65 λx7=>
 gC aea λm66 aeb=>
 gI .i64 m66 λx8=>
 gC aeb λm67 aec=>
 gI .i64 m67 λx9=>
 gC aec λm68 aed=>
 gI .i64 m68 λll=>
 gC aed λm69 T8=>
 gB m69 λlm=>
 gC T8 λm70 aee=>
 gI .i64 m70 λmB=>
 gC aee λm71 aef=>
 gS m71 λlN=>
 gC aef λm72 aeg=>
 gL m72 λnB=>
 gC aeg λm73 aeh=>
 gL m73 λpQ=>
 gC aeh λm74 aqV=>
 gI .i64 m74 λrh=>
 gC aqV λm75 aqW=>
 gI .i64 m75 λpa=>
 gC aqW λm76 aqX=>
 gL m76 λyT=>
 gC aqX λm77 aqY=>
 gL m77 λEb=>
 gC aqY λm78 aqZ=>
 gL m78 λGS=>
 gC aqZ λm79 aq0=>
 gB m79 λHj=>
 gC aq0 λm80 aq1=>
 gS m80 λFo=>
 gC aq1 λm81 ad7=>
 gL m81 λI4=>
 gC ad7 λm82 aq2=>
 gI .i64 m82 λJy=>
 gC aq2 λm83 aq3=>
 gI .i64 m83 λI5=>
 gC aq3 λm84 aq4=>
 gI .i64 m84 λI6=>
 gC aq4 λm85 aq5=>
 gI .i64 m85 λI7=>
 gC aq5 λm86 aq6=>
 gI .i64 m86 λJz=>
 gC aq6 λm87 aq7=>
 gB m87 λJA=>
 gC aq7 λm88 aq8=>
 gI .i64 m88 λJB=>
 gC aq8 λm89 aq9=>
 gS m89 λJC=>
 gC aq9 λm90 ara=>
 gL m90 λJD=>
 gC ara λm91 arb=>
 gL m91 λJE=>
 gC arb λm92 arc=>
 gI .i64 m92 λNu=>
 gC arc λm93 ard=>
 gI .i64 m93 λQ8=>
 gC ard λm94 arf=>
 gL m94 λQ9=>
 gC arf λm95 arh=>
 gL m95 λRa=>
 gC arh λm96 ari=>
 gL m96 λx38=>
 gC ari λm97 arj=>
 gB m97 λx39=>
 gC arj λm98 ark=>
 gS m98 λx40=>
 gC ark λm99 alA=>
 gL m99 λx41=>
 oT alA λx42 x43=>
 bB Le λlen=>
 aR (decide (x43<(len:Int))) (
 idx Le x43 λy=>
 gA y λcs5=>
 nX cs5 λKind I J Pb Pc Pd zw Fq Cd uq pc Ed ZX Pe Pf Hm zx zy=>
 bd (
 aR (decide (Kind=0)) (
 some (0,[.b (decide (Kind=0))])) (
 some (0,[.b (decide (Kind=3))]))) λp1=>
 b5 (sh p1.1 0)<|
 gC p1.2 λaw0 alB=>
 gB aw0 λx44=>
 gN alB<|
 bd (
 aR x44 (
 bd (vu (.agg [.i .i64 SF,.i .i64 ST]) (.i .i64 ez) (.agg (al x7 x8 x9 ll lm mB lN nB pQ rh pa yT Eb GS Hj Fo I4 Jy)) (.agg (ay Pb Pc Pd zw Fq Cd uq pc Ed ZX Pe Pf Hm zx zy))) λGR=>
 gT GR λRf=>
 gC Rf λaw1 alC=>
 gA aw1 λcs6=>
 aF cs6 λalr als alu WG aep alv RH RI L1 alw alx En Eo RJ WH RL aly alz=>
 gC alC λaw2 alD=>
 gL aw2 λx45=>
 gN alD<|
 bd (lO (.agg [.i .i64 SF,.i .i64 ST])) λrA9=>
 gA rA9 λcs7=>
 oT cs7 λF1 T1=>
 bd (Gd (.agg (ay Pb Pc Pd zw Fq Cd uq pc Ed ZX Pe Pf Hm zx zy))) λadj=>
 gA adj λcs8=>
 bS cs8 λDy dU View Value dX ei cO b9 Proof Cf nY nZ iD eW eL=>
 bd (Cp (.agg [.i .i64 F1,.i .i64 T1]) (.i .i64 ez) (.agg (al I5 I6 I7 Jz JA JB JC JD JE Nu Q8 Q9 Ra x38 x39 x40 x41 x42)) (.agg (ay Dy dU View Value dX ei cO b9 Proof Cf nY nZ iD eW eL))) λvQ=>
 gT vQ λvs4=>
 gC vs4 λaw3 alE=>
 gA aw3 λcs9=>
 aF cs9 λarl arm arn aeq ai3 aro Yr Ys Ul arp arq L2 L3 Yt aer Yu ars art=>
 gC alE λaw4 alF=>
 gL aw4 λx46=>
 gN alF<|
 both (
 some (0,(bu alr als alu WG aep alv RH RI L1 alw alx En Eo RJ WH RL aly alz arl arm arn aeq ai3 aro Yr Ys Ul arp arq L2 L3 Yt aer Yu ars art x45 x46))) (
 some (0,(bu alr als alu WG aep alv RH RI L1 alw alx En Eo RJ WH RL aly alz arl arm arn aeq ai3 aro Yr Ys Ul arp arq L2 L3 Yt aer Yu ars art x45 x46)))) (
 bd (
 aR (decide (Kind=1)) (
 bd (s5 (.agg [.i .i64 SF,.i .i64 ST]) (.i .i64 ez) (.agg (al x7 x8 x9 ll lm mB lN nB pQ rh pa yT Eb GS Hj Fo I4 Jy)) (.i .i64 I)) λvR=>
 gT vR λvs5=>
 gC vs5 λaw5 alG=>
 gA aw5 λaw6=>
 aF aw6 λaru arv arw aes ai4 arx Yv Yw Um ary arz L4 L5 Yx aet Yy arA arB=>
 gC alG λale alH=>
 gL ale λx47=>
 gN alH<|
 bd (lO (.agg [.i .i64 SF,.i .i64 ST])) λadk=>
 gA adk λaw7=>
 oT aw7 λF2 T2=>
 bd (zL (.agg [.i .i64 F2,.i .i64 T2]) (.i .i64 ez) (.agg (al I5 I6 I7 Jz JA JB JC JD JE Nu Q8 Q9 Ra x38 x39 x40 x41 x42)) (.i .i64 I)) λvT=>
 gT vT λvs6=>
 gC vs6 λaw8 alI=>
 gA aw8 λaw9=>
 aF aw9 λarC arD arE aeu ai5 arF Yz YA Un arG arH L6 L7 YB aev YC arI arJ=>
 gC alI λaxa alJ=>
 gL axa λx48=>
 gN alJ<|
 both (
 some (0,(bu aru arv arw aes ai4 arx Yv Yw Um ary arz L4 L5 Yx aet Yy arA arB arC arD arE aeu ai5 arF Yz YA Un arG arH L6 L7 YB aev YC arI arJ x47 x48))) (
 some (0,(bu aru arv arw aes ai4 arx Yv Yw Um ary arz L4 L5 Yx aet Yy arA arB arC arD arE aeu ai5 arF Yz YA Un arG arH L6 L7 YB aev YC arI arJ x47 x48)))) (
 bd (
 aR (decide (Kind=2)) (
 bd (vv (.agg [.i .i64 SF,.i .i64 ST]) (.i .i64 ez) (.agg (al x7 x8 x9 ll lm mB lN nB pQ rh pa yT Eb GS Hj Fo I4 Jy)) (.s zw)) λvU=>
 gT vU λvs7=>
 gC vs7 λaxb alK=>
 gA axb λaxc=>
 aF axc λarK arL arM aew ai6 arN YD YE Uo arO arP L8 L9 YF aex YG arQ arR=>
 gC alK λaxd alL=>
 gL axd λx49=>
 gN alL<|
 bd (lO (.agg [.i .i64 SF,.i .i64 ST])) λadl=>
 gA adl λaxe=>
 oT axe λF3 T3=>
 bd (Cr (.agg [.i .i64 F3,.i .i64 T3]) (.i .i64 ez) (.agg (al I5 I6 I7 Jz JA JB JC JD JE Nu Q8 Q9 Ra x38 x39 x40 x41 x42)) (.s zw)) λvV=>
 gT vV λvs8=>
 gC vs8 λaxf alM=>
 gA axf λaxg=>
 aF axg λarS arT arU aey ai7 arV YH YI Up arW arX Ma Mb YJ aez YK arY arZ=>
 gC alM λaxh alN=>
 gL axh λx50=>
 gN alN<|
 both (
 some (0,(bu arK arL arM aew ai6 arN YD YE Uo arO arP L8 L9 YF aex YG arQ arR arS arT arU aey ai7 arV YH YI Up arW arX Ma Mb YJ aez YK arY arZ x49 x50))) (
 some (0,(bu arK arL arM aew ai6 arN YD YE Uo arO arP L8 L9 YF aex YG arQ arR arS arT arU aey ai7 arV YH YI Up arW arX Ma Mb YJ aez YK arY arZ x49 x50)))) (
 bd (
 aR (decide (Kind=4)) (
 bd (qI (.agg [.i .i64 SF,.i .i64 ST]) (.i .i64 ez) (.agg (al x7 x8 x9 ll lm mB lN nB pQ rh pa yT Eb GS Hj Fo I4 Jy))) λxu=>
 gA xu λaxi=>
 aF axi λaxj axk axl alO ar0 axm ahz ahA aeA axn axo WI WJ ahB alP ahC axp axq=>
 bd (lO (.agg [.i .i64 SF,.i .i64 ST])) λadm=>
 gA adm λaxr=>
 oT axr λF4 T4=>
 bd (wX (.agg [.i .i64 F4,.i .i64 T4]) (.i .i64 ez) (.agg (al I5 I6 I7 Jz JA JB JC JD JE Nu Q8 Q9 Ra x38 x39 x40 x41 x42))) λxv=>
 gA xv λaxs=>
 aF axs λar1 ar2 ar3 ahD alQ ar4 aeB aeC Z5 ar5 ar6 Uq Ur aeD ahE aeE ar7 ar8=>
 some (0,[.i .i64 axj,.i .i64 axk,.i .i64 axl,.i .i64 alO,.b ar0,.i .i64 axm,.s ahz,.list ahA,.list aeA,.i .i64 axn,.i .i64 axo,.list WI,.list WJ,.list ahB,.b alP,.s ahC,.list axp,.i .i64 axq,.i .i64 ar1,.i .i64 ar2,.i .i64 ar3,.i .i64 ahD,.b alQ,.i .i64 ar4,.s aeB,.list aeC,.list Z5,.i .i64 ar5,.i .i64 ar6,.list Uq,.list Ur,.list aeD,.b ahE,.s aeE,.list ar7,.i .i64 ar8])) (
 some (0,[.i .i64 x7,.i .i64 x8,.i .i64 x9,.i .i64 ll,.b lm,.i .i64 mB,.s lN,.list nB,.list pQ,.i .i64 rh,.i .i64 pa,.list yT,.list Eb,.list GS,.b Hj,.s Fo,.list I4,.i .i64 Jy,.i .i64 I5,.i .i64 I6,.i .i64 I7,.i .i64 Jz,.b JA,.i .i64 JB,.s JC,.list JD,.list JE,.i .i64 Nu,.i .i64 Q8,.list Q9,.list Ra,.list x38,.b x39,.s x40,.list x41,.i .i64 x42]))) λp5=>
 b5 (sh p5.1 0)<|
 gC p5.2 λaxt alR=>
 gI .i64 axt λx51=>
 gC alR λaxu alS=>
 gI .i64 axu λx52=>
 gC alS λaxv alT=>
 gI .i64 axv λx53=>
 gC alT λaxw alU=>
 gI .i64 axw λx54=>
 gC alU λaxx alV=>
 gB axx λx55=>
 gC alV λaxy alW=>
 gI .i64 axy λx56=>
 gC alW λaxz alX=>
 gS axz λx57=>
 gC alX λaxA alY=>
 gL axA λx58=>
 gC alY λaxB alZ=>
 gL axB λx59=>
 gC alZ λaxC al0=>
 gI .i64 axC λx60=>
 gC al0 λaxD al1=>
 gI .i64 axD λx61=>
 gC al1 λaxE al2=>
 gL axE λx62=>
 gC al2 λaxF al3=>
 gL axF λx63=>
 gC al3 λaxG al4=>
 gL axG λx64=>
 gC al4 λaxH al5=>
 gB axH λx65=>
 gC al5 λaxI al6=>
 gS axI λx66=>
 gC al6 λaxJ al7=>
 gL axJ λx67=>
 gC al7 λaxK al8=>
 gI .i64 axK λx68=>
 aF al8 λx69 x70 x71 x72 x73 x74 x75 x76 x77 x78 x79 x80 x81 x82 x83 x84 x85 x86=>
 some (0,(bu x51 x52 x53 x54 x55 x56 x57 x58 x59 x60 x61 x62 x63 x64 x65 x66 x67 x68 x69 x70 x71 x72 x73 x74 x75 x76 x77 x78 x79 x80 x81 x82 x83 x84 x85 x86 ([]:List MV) ([]:List MV))))) λp4=>
 b5 (sh p4.1 0)<|
 dm .i64 .i64 .i64 .i64 .i64 .i64 .i64 .i64 .i64 .i64 .i64 .i64 .i64 .i64 .i64 .i64 p4.2 λx87 x88 x89 x90 x91 x92 x93 x94 x95 x96 x97 x98 x99 adQ adR adS adT adU adV adW adX adY ZZ TG WB adZ ad0 alb axL axM axN axO axP axQ axR axS axT axU=>
 some (0,(bu x87 x88 x89 x90 x91 x92 x93 x94 x95 x96 x97 x98 x99 adQ adR adS adT adU adV adW adX adY ZZ TG WB adZ ad0 alb axL axM axN axO axP axQ axR axS axT axU)))) λp3=>
 b5 (sh p3.1 0)<|
 dm .i64 .i64 .i64 .i64 .i64 .i64 .i64 .i64 .i64 .i64 .i64 .i64 .i64 .i64 .i64 .i64 p3.2 λaxV axW axX axY axZ ax0 ax1 ax2 ax3 ax4 ax5 ax6 ax7 ax8 ax9 aya ayb ayc ayd aye ayf ayg ayh ayi ayj ayk ayl aym ayn ayo ayp ayq ayr ays ayt ayu ayv ayw=>
 some (0,(bu axV axW axX axY axZ ax0 ax1 ax2 ax3 ax4 ax5 ax6 ax7 ax8 ax9 aya ayb ayc ayd aye ayf ayg ayh ayi ayj ayk ayl aym ayn ayo ayp ayq ayr ays ayt ayu ayv ayw)))) λp2=>
 b5 (sh p2.1 0)<|
 dm .i64 .i64 .i64 .i64 .i64 .i64 .i64 .i64 .i64 .i64 .i64 .i64 .i64 .i64 .i64 .i64 p2.2 λar9 asa asb asc asd ase asf asg ash asi asj asl asm asn aso asp asq asr ass ast asu asv asw asx asy asz asA asC asD asE asF asG asH asJ asK asL ayx ayy=>
 bd (
 bd (Bu (.agg (al ar9 asa asb asc asd ase asf asg ash asi asj asl asm asn aso asp asq asr))) λadn=>
 gA adn λayz=>
 aF ayz λasM asN asO ahF al9 asP aeF aeG Z6 asQ asR Us Ut aeH ahG aeI asS asT=>
 bd (yD (.agg (al asM asN asO ahF al9 asP aeF aeG Z6 asQ asR Us Ut aeH ahG aeI asS asT)) (.agg (al ass ast asu asv asw asx asy asz asA asC asD asE asF asG asH asJ asK asL))) λaha=>
 gB aha λayA=>
 aR (!ayA) (
 some [.b true]) (
 bd (Gj (.list ayx)) λado=>
 gL ado λayB=>
 bd (Cy (.list ayB) (.list ayy)) λahb=>
 gB ahb λayC=>
 some [.b (!ayC)])) λvs9=>
 gC vs9 λayD ama=>
 gB ayD λayE=>
 gN ama<|
 aR ayE (
 some (.inr (1,[.b false]))) (
 some (.inl [.i .i64 ar9,.i .i64 asa,.i .i64 asb,.i .i64 asc,.b asd,.i .i64 ase,.s asf,.list asg,.list ash,.i .i64 asi,.i .i64 asj,.list asl,.list asm,.list asn,.b aso,.s asp,.list asq,.i .i64 asr,.i .i64 ass,.i .i64 ast,.i .i64 asu,.i .i64 asv,.b asw,.i .i64 asx,.s asy,.list asz,.list asA,.i .i64 asC,.i .i64 asD,.list asE,.list asF,.list asG,.b asH,.s asJ,.list asK,.i .i64 asL,.i .i64 (fj .i64 (x43+1))]))) (
 some (.inr (2,[])))) [.i .i64 pR,.i .i64 pS,.i .i64 pT,.i .i64 cq,.b fN,.i .i64 pU,.s cc,.list cf,.list bK,.i .i64 pV,.i .i64 pW,.list bg,.list bh,.list cg,.b db,.s ch,.list cy,.i .i64 fh,.i .i64 CQ,.i .i64 CR,.i .i64 CS,.i .i64 n6,.b tC,.i .i64 CT,.s kh,.list ki,.list iF,.i .i64 CU,.i .i64 CV,.list eX,.list eY,.list kj,.b n7,.s jM,.list CW,.i .i64 CX,.i .i64 0]) λp=>
 aR (sh p.1 2) (
 gN p.2<|
 bd (uy) λahc=>
 gB ahc λayF=>
 some (.b ayF)) (
 b5 (sh p.1 1)<|
 gC p.2 λayG amb=>
 gB ayG λayH=>
 gN amb<|
 some (.b ayH)))))
def NZ:GT:=bt 3 (uU xD) PO
theorem Gm:SG NZ:=pX NY [] [] 185 [70,71] [] [] [(5,[0,1,2,3,4,6,5,7,8,9]),(18,[0,1,3,4,5,6,2,7,8,9,10,11,12,13,14]),(19,[0,2,3,4,1,5,6,7,0,1,2,3,4,5,6,7,4,1]),(22,[0,1,3,4,5,6,2,7,8,9,10,11,12,13]),(23,[0,2,3,4,1,5,6,7,0,1,2,3,4,5,6,7,4,1]),(26,[0,1,3,4,5,6,7,2,8,9,10,11,12,13,14]),(27,[0,2,3,4,1,5,6,7,0,1,2,3,4,5,6,7,4,1]),(30,[0,1,3,4,2,5,6]),(31,[0,2,1,3,4,5,6,8,7,9,10,11])] [(31,⟨[1,2,3,7,9,11,13,14],[],[],[(0,[(183,.sc (.k .b))])],[]⟩),(5,⟨[1,2,3,7,8,9,10],[],[],[(0,[(56,.sc (.k .b))])],[]⟩)] [(29,⟨[1,2,3,11,13,14],[],[],[(0,[(7,.box [.k (.i .i64),.k (.i .i64),.k (.i .i64),.k (.i .i64),.k .b,.k (.i .i64),.k .s,.k .l,.k .l,.k (.i .i64),.k (.i .i64),.k .l,.k .l,.k .l,.k .b,.k .s,.k .l,.k (.i .i64)]),(9,.box [.k (.i .i64),.k (.i .i64),.k (.i .i64),.k (.i .i64),.k .b,.k (.i .i64),.k .s,.k .l,.k .l,.k (.i .i64),.k (.i .i64),.k .l,.k .l,.k .l,.k .b,.k .s,.k .l,.k (.i .i64)])])],[]⟩),(25,⟨[1,2,3,11,12,73],[],[],[(0,[(7,.box [.k (.i .i64),.k (.i .i64),.k (.i .i64),.k (.i .i64),.k .b,.k (.i .i64),.k .s,.k .l,.k .l,.k (.i .i64),.k (.i .i64),.k .l,.k .l,.k .l,.k .b,.k .s,.k .l,.k (.i .i64)]),(9,.box [.k (.i .i64),.k (.i .i64),.k (.i .i64),.k (.i .i64),.k .b,.k (.i .i64),.k .s,.k .l,.k .l,.k (.i .i64),.k (.i .i64),.k .l,.k .l,.k .l,.k .b,.k .s,.k .l,.k (.i .i64)]),(13,.sc (.k .l)),(14,.sc (.k .l))])],[]⟩),(21,⟨[1,2,3,11,12,73],[],[],[(0,[(7,.box [.k (.i .i64),.k (.i .i64),.k (.i .i64),.k (.i .i64),.k .b,.k (.i .i64),.k .s,.k .l,.k .l,.k (.i .i64),.k (.i .i64),.k .l,.k .l,.k .l,.k .b,.k .s,.k .l,.k (.i .i64)]),(9,.box [.k (.i .i64),.k (.i .i64),.k (.i .i64),.k (.i .i64),.k .b,.k (.i .i64),.k .s,.k .l,.k .l,.k (.i .i64),.k (.i .i64),.k .l,.k .l,.k .l,.k .b,.k .s,.k .l,.k (.i .i64)]),(13,.sc (.k .l)),(14,.sc (.k .l))])],[]⟩),(17,⟨[1,2,3,11,12,73],[],[],[(0,[(7,.box [.k (.i .i64),.k (.i .i64),.k (.i .i64),.k (.i .i64),.k .b,.k (.i .i64),.k .s,.k .l,.k .l,.k (.i .i64),.k (.i .i64),.k .l,.k .l,.k .l,.k .b,.k .s,.k .l,.k (.i .i64)]),(9,.box [.k (.i .i64),.k (.i .i64),.k (.i .i64),.k (.i .i64),.k .b,.k (.i .i64),.k .s,.k .l,.k .l,.k (.i .i64),.k (.i .i64),.k .l,.k .l,.k .l,.k .b,.k .s,.k .l,.k (.i .i64)]),(13,.sc (.k .l)),(14,.sc (.k .l))])],[]⟩),(16,⟨[1,2,3,7,9,11,12,13,14,73],[],[],[(0,[(74,.sc (.k .b))])],[]⟩)] [(10,⟨[1,2,3],[],[(7,.box [.k (.i .i64),.k (.i .i64),.k (.i .i64),.k (.i .i64),.k .b,.k (.i .i64),.k .s,.k .l,.k .l,.k (.i .i64),.k (.i .i64),.k .l,.k .l,.k .l,.k .b,.k .s,.k .l,.k (.i .i64)]),(9,.box [.k (.i .i64),.k (.i .i64),.k (.i .i64),.k (.i .i64),.k .b,.k (.i .i64),.k .s,.k .l,.k .l,.k (.i .i64),.k (.i .i64),.k .l,.k .l,.k .l,.k .b,.k .s,.k .l,.k (.i .i64)]),(11,.sc (.k (.i .i64)))],[(1,[(6,.sc (.k .b))]),(2,[])],[]⟩)] [] Tryz.func3 (by kernel_rfl) (gQ (λ_ _ _=>by kernel_rfl))
end
end Dn.S
