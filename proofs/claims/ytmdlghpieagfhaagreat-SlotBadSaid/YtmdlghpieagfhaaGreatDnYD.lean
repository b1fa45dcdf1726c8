import Derived.Test.YtmdlghpieagfhaaGreatDnYTab
import Derived.Test.YtmdlghpieagfhaaGreatDnC
import Derived.Test.YtmdlghpieagfhaaGreatDnYT
import Derived.KernelRfl
import Derived.Test.YtmdlghpieagfhaaGreatProg
/-
  The functions, on plain values, and their contracts. Conditions: none.
-/
set_option linter.unusedVariables false
set_option linter.unusedSimpArgs false
open Go.IntKind renaming wrap→eJ,bits→BY
open Nat renaming beq→sh,eq_of_beq_eq_true→AT,le_of_ble_eq_true→IN
open Int renaming toNat→AI,fdiv→OF
open Go.Extern.SlicesOverlaps renaming overlaps→IS
open List renaming drop→IT,take→No,replicate→aaa
open Go.FloatKind renaming nearest→aah
open Option.some renaming injEq→aai
open Go Dn Go.Proofs
set_option maxRecDepth 100000
namespace Dn.S
noncomputable section
theorem q9:lV Tryz.prog (vz Im):=Nn (by kernel_rfl)
theorem LQ:MU Tryz.prog (vz Im):=UK (by kernel_rfl)
theorem Ab:Tryz.prog.follows .mixedOrders=true:=by kernel_rfl
def oII {R:Type}(k0 k1:IntKind)(l0:List MV)(K:Int->Int->Option R):Option R:=gC l0 λm0 l1=>gI k0 m0 λx0=>gC l1 λm1 l2=>gI k1 m1 λx1=>gN l2<|K x0 x1
def TH {R:Type}(k0 k1 k3:IntKind)(l0:List MV)(K:Int->Int->Bool->Int->List UInt8->List MV->Option R):Option R:=gC l0 λm0 l1=>gI k0 m0 λx0=>gC l1 λm1 l2=>gI k1 m1 λx1=>gC l2 λm2 l3=>gB m2 λx2=>gC l3 λm3 l4=>gI k3 m3 λx3=>gC l4 λm4 l5=>gS m4 λx4=>gC l5 λm5 l6=>gL m5 λx5=>gN l6<|K x0 x1 x2 x3 x4 x5
def IP {R:Type}(k0 k1 k2 k3 k5:IntKind)(l0:List MV)(K:Int->Int->Int->Int->Bool->Int->List UInt8->List MV->List MV->Option R):Option R:=gC l0 λm0 l1=>gI k0 m0 λx0=>gC l1 λm1 l2=>gI k1 m1 λx1=>gC l2 λm2 l3=>gI k2 m2 λx2=>gC l3 λm3 l4=>gI k3 m3 λx3=>gC l4 λm4 l5=>gB m4 λx4=>gC l5 λm5 l6=>gI k5 m5 λx5=>gC l6 λm6 l7=>gS m6 λx6=>gC l7 λm7 l8=>gL m7 λx7=>gC l8 λm8 l9=>gL m8 λx8=>gN l9<|K x0 x1 x2 x3 x4 x5 x6 x7 x8
def fN {R:Type}(k0 k1 k2 k3 k5 k9 TJ k17:IntKind)(l0:List MV)(K:Int->Int->Int->Int->Bool->Int->List UInt8->List MV->List MV->Int->Int->List MV->List MV->List MV->Bool->List UInt8->List MV->Int->Option R):Option R:=gC l0 λm0 l1=>gI k0 m0 λx0=>gC l1 λm1 l2=>gI k1 m1 λx1=>gC l2 λm2 l3=>gI k2 m2 λx2=>gC l3 λm3 l4=>gI k3 m3 λx3=>gC l4 λm4 l5=>gB m4 λx4=>gC l5 λm5 l6=>gI k5 m5 λx5=>gC l6 λm6 l7=>gS m6 λx6=>gC l7 λm7 l8=>gL m7 λx7=>gC l8 λm8 l9=>gL m8 λx8=>gC l9 λm9 l10=>gI k9 m9 λx9=>gC l10 λNF l11=>gI TJ NF λqE=>gC l11 λKz l12=>gL Kz λrB=>gC l12 λDR l13=>gL DR λr8=>gC l13 λKA l14=>gL KA λr9=>gC l14 λIQ l15=>gB IQ λtA=>gC l15 λPF l16=>gS PF λxf=>gC l16 λUZ l17=>gL UZ λzx=>gC l17 λFj l18=>gI k17 Fj λwK=>gN l18<|K x0 x1 x2 x3 x4 x5 x6 x7 x8 x9 qE rB r8 r9 tA xf zx wK
def jO {R:Type}(k0 k1 k2 k3 k5 k9 TJ k17:IntKind)(l0:List MV)(K:Int->Int->Int->Int->Bool->Int->List UInt8->List MV->List MV->Int->Int->List MV->List MV->List MV->Bool->List UInt8->List MV->Int->List MV->Option R):Option R:=gC l0 λm0 l1=>gI k0 m0 λx0=>gC l1 λm1 l2=>gI k1 m1 λx1=>gC l2 λm2 l3=>gI k2 m2 λx2=>gC l3 λm3 l4=>gI k3 m3 λx3=>gC l4 λm4 l5=>gB m4 λx4=>gC l5 λm5 l6=>gI k5 m5 λx5=>gC l6 λm6 l7=>gS m6 λx6=>gC l7 λm7 l8=>gL m7 λx7=>gC l8 λm8 l9=>gL m8 λx8=>gC l9 λm9 l10=>gI k9 m9 λx9=>gC l10 λNF l11=>gI TJ NF λqE=>gC l11 λKz l12=>gL Kz λrB=>gC l12 λDR l13=>gL DR λr8=>gC l13 λKA l14=>gL KA λr9=>gC l14 λIQ l15=>gB IQ λtA=>gC l15 λPF l16=>gS PF λxf=>gC l16 λUZ l17=>gL UZ λzx=>gC l17 λFj l18=>gI k17 Fj λwK=>gC l18 λKB l19=>gL KB λKi=>gN l19<|K x0 x1 x2 x3 x4 x5 x6 x7 x8 x9 qE rB r8 r9 tA xf zx wK Ki
def sK {R:Type}(k0 k1 k2 k3 k4 k5 k8 k9 k12 k13 k15:IntKind)(l0:List MV)(K:Int->Int->Int->Int->Int->Int->List UInt8->List MV->Int->Int->List UInt8->List MV->Int->Int->Bool->Int->List UInt8->List MV->Option R):Option R:=gC l0 λm0 l1=>gI k0 m0 λx0=>gC l1 λm1 l2=>gI k1 m1 λx1=>gC l2 λm2 l3=>gI k2 m2 λx2=>gC l3 λm3 l4=>gI k3 m3 λx3=>gC l4 λm4 l5=>gI k4 m4 λx4=>gC l5 λm5 l6=>gI k5 m5 λx5=>gC l6 λm6 l7=>gS m6 λx6=>gC l7 λm7 l8=>gL m7 λx7=>gC l8 λm8 l9=>gI k8 m8 λx8=>gC l9 λm9 l10=>gI k9 m9 λx9=>gC l10 λNF l11=>gS NF λqE=>gC l11 λKz l12=>gL Kz λrB=>gC l12 λDR l13=>gI k12 DR λr8=>gC l13 λKA l14=>gI k13 KA λr9=>gC l14 λIQ l15=>gB IQ λtA=>gC l15 λPF l16=>gI k15 PF λxf=>gC l16 λUZ l17=>gS UZ λzx=>gC l17 λFj l18=>gL Fj λwK=>gN l18<|K x0 x1 x2 x3 x4 x5 x6 x7 x8 x9 qE rB r8 r9 tA xf zx wK
def nE {R:Type}(k0 k1 k2 k5 k6 k9 TJ k12:IntKind)(l0:List MV)(K:Int->Int->Int->List UInt8->List MV->Int->Int->List UInt8->List MV->Int->Int->Bool->Int->List UInt8->List MV->Option R):Option R:=gC l0 λm0 l1=>gI k0 m0 λx0=>gC l1 λm1 l2=>gI k1 m1 λx1=>gC l2 λm2 l3=>gI k2 m2 λx2=>gC l3 λm3 l4=>gS m3 λx3=>gC l4 λm4 l5=>gL m4 λx4=>gC l5 λm5 l6=>gI k5 m5 λx5=>gC l6 λm6 l7=>gI k6 m6 λx6=>gC l7 λm7 l8=>gS m7 λx7=>gC l8 λm8 l9=>gL m8 λx8=>gC l9 λm9 l10=>gI k9 m9 λx9=>gC l10 λNF l11=>gI TJ NF λqE=>gC l11 λKz l12=>gB Kz λrB=>gC l12 λDR l13=>gI k12 DR λr8=>gC l13 λKA l14=>gS KA λr9=>gC l14 λIQ l15=>gL IQ λtA=>gN l15<|K x0 x1 x2 x3 x4 x5 x6 x7 x8 x9 qE rB r8 r9 tA
def Ac {R:Type}(k0 k1:IntKind)(l0:List MV)(K:Int->Int->List MV->List MV->List MV->Bool->List UInt8->Option R):Option R:=gC l0 λm0 l1=>gI k0 m0 λx0=>gC l1 λm1 l2=>gI k1 m1 λx1=>gC l2 λm2 l3=>gL m2 λx2=>gC l3 λm3 l4=>gL m3 λx3=>gC l4 λm4 l5=>gL m4 λx4=>gC l5 λm5 l6=>gB m5 λx5=>gC l6 λm6 l7=>gS m6 λx6=>gN l7<|K x0 x1 x2 x3 x4 x5 x6
def lf {R:Type}(k0 k1:IntKind)(l0:List MV)(K:Int->Int->List MV->List MV->List MV->List MV->Option R):Option R:=gC l0 λm0 l1=>gI k0 m0 λx0=>gC l1 λm1 l2=>gI k1 m1 λx1=>gC l2 λm2 l3=>gL m2 λx2=>gC l3 λm3 l4=>gL m3 λx3=>gC l4 λm4 l5=>gL m4 λx4=>gC l5 λm5 l6=>gL m5 λx5=>gN l6<|K x0 x1 x2 x3 x4 x5
def IR {R:Type}(k0 k1 k6:IntKind)(l0:List MV)(K:Int->Int->List MV->List MV->List MV->List MV->Int->Option R):Option R:=gC l0 λm0 l1=>gI k0 m0 λx0=>gC l1 λm1 l2=>gI k1 m1 λx1=>gC l2 λm2 l3=>gL m2 λx2=>gC l3 λm3 l4=>gL m3 λx3=>gC l4 λm4 l5=>gL m4 λx4=>gC l5 λm5 l6=>gL m5 λx5=>gC l6 λm6 l7=>gI k6 m6 λx6=>gN l7<|K x0 x1 x2 x3 x4 x5 x6
def aid {R:Type}(k0 k1:IntKind)(l0:List MV)(K:Int->Int->List UInt8->Option R):Option R:=gC l0 λm0 l1=>gI k0 m0 λx0=>gC l1 λm1 l2=>gI k1 m1 λx1=>gC l2 λm2 l3=>gS m2 λx2=>gN l3<|K x0 x1 x2
def abl {R:Type}(k0:IntKind)(l0:List MV)(K:Int->List UInt8->Bool->Option R):Option R:=gC l0 λm0 l1=>gI k0 m0 λx0=>gC l1 λm1 l2=>gS m1 λx1=>gC l2 λm2 l3=>gB m2 λx2=>gN l3<|K x0 x1 x2
def oLI {R:Type}(k1:IntKind)(l0:List MV)(K:List MV->Int->Option R):Option R:=gC l0 λm0 l1=>gL m0 λx0=>gC l1 λm1 l2=>gI k1 m1 λx1=>gN l2<|K x0 x1
abbrev n5 {R:Type}:= @sK R .i64 .i64 .i64 .i64 .i64 .i64 .i64 .i64 .i64 .i64 .i64
abbrev il {R:Type}:= @TH R .i64 .i64 .i64
abbrev Dd {R:Type}:= @oII R .i64 .i64
abbrev fI {R:Type}:= @IP R .i64 .i64 .i64 .i64 .i64
abbrev fJ {R:Type}:= @Ac R .i64 .i64
abbrev aQ {R:Type}:= @fN R .i64 .i64 .i64 .i64 .i64 .i64 .i64 .i64
abbrev cZ {R:Type}:= @lf R .i64 .i64
abbrev Gj {R:Type}:= @oLI R .i64
abbrev mA {R:Type}:= @aid R .i64 .i64
abbrev NG {R:Type}:= @abl R .i64
abbrev ch {R:Type}:= @nE R .i64 .i64 .i64 .i64 .i64 .i64 .i64 .i64
abbrev IU {R:Type}:= @IR R .i64 .i64 .i64
@[reducible] def bt (x0 : Int)(x1 : Int)(x2 : Bool)(x3 : Int)(x4 : List UInt8)(x5 : List MV) : List MV := [.i .i64 x0, .i .i64 x1, .b x2, .i .i64 x3, .s x4, .list x5]
@[reducible] def cK (x0 : Int)(x1 : Int)(x2 : Int)(x3 : Int)(x4 : Bool)(x5 : Int)(x6 : List UInt8)(x7 : List MV)(x8 : List MV) : List MV := [.i .i64 x0, .i .i64 x1, .i .i64 x2, .i .i64 x3, .b x4, .i .i64 x5, .s x6, .list x7, .list x8]
@[reducible] def av (x0 : Int)(x1 : Int)(x2 : Int)(x3 : Int)(x4 : Bool)(x5 : Int)(x6 : List UInt8)(x7 : List MV)(x8 : List MV)(x9 : Int)(qE : Int)(rB : List MV)(r8 : List MV)(r9 : List MV)(tA : Bool)(xf : List UInt8)(zx : List MV)(wK : Int) : List MV := [.i .i64 x0, .i .i64 x1, .i .i64 x2, .i .i64 x3, .b x4, .i .i64 x5, .s x6, .list x7, .list x8, .i .i64 x9, .i .i64 qE, .list rB, .list r8, .list r9, .b tA, .s xf, .list zx, .i .i64 wK]
@[reducible] def ef (x0 : Int)(x1 : Int)(x2 : Int)(x3 : Int)(x4 : Bool)(x5 : Int)(x6 : List UInt8)(x7 : List MV)(x8 : List MV)(x9 : Int)(qE : Int)(rB : List MV)(r8 : List MV)(r9 : List MV)(tA : Bool)(xf : List UInt8)(zx : List MV)(wK : Int)(Ki : List MV) : List MV := [.i .i64 x0, .i .i64 x1, .i .i64 x2, .i .i64 x3, .b x4, .i .i64 x5, .s x6, .list x7, .list x8, .i .i64 x9, .i .i64 qE, .list rB, .list r8, .list r9, .b tA, .s xf, .list zx, .i .i64 wK, .list Ki]
@[reducible] def aE (x0 : Int)(x1 : Int)(x2 : Int)(x3 : List UInt8)(x4 : List MV)(x5 : Int)(x6 : Int)(x7 : List UInt8)(x8 : List MV)(x9 : Int)(qE : Int)(rB : Bool)(r8 : Int)(r9 : List UInt8)(tA : List MV) : List MV := [.i .i64 x0, .i .i64 x1, .i .i64 x2, .s x3, .list x4, .i .i64 x5, .i .i64 x6, .s x7, .list x8, .i .i64 x9, .i .i64 qE, .b rB, .i .i64 r8, .s r9, .list tA]
@[reducible] def cL (x0 : Int)(x1 : Int)(x2 : List MV)(x3 : List MV)(x4 : List MV)(x5 : Bool)(x6 : List UInt8) : List MV := [.i .i64 x0, .i .i64 x1, .list x2, .list x3, .list x4, .b x5, .s x6]
@[reducible] def ba (x0 : Int)(x1 : Int)(x2 : List MV)(x3 : List MV)(x4 : List MV)(x5 : List MV) : List MV := [.i .i64 x0, .i .i64 x1, .list x2, .list x3, .list x4, .list x5]
@[reducible] def qd (x0 : Int)(x1 : Int)(x2 : List MV)(x3 : List MV)(x4 : List MV)(x5 : List MV)(x6 : Int) : List MV := [.i .i64 x0, .i .i64 x1, .list x2, .list x3, .list x4, .list x5, .i .i64 x6]
def IV:List (Nat×pJ)->Nat->pJ
 |[],_=>default
 |(k,s)::r,t=>bif sh k t then s else IV r t
def PG:List (Nat×List Nat)->Nat->List Nat
 |[],_=>[]
 |(k,s)::r,t=>bif sh k t then s else PG r t
def PH:List (Nat×Nat)->Nat->Nat
 |[],_=>0
 |(k,s)::r,t=>bif sh k t then s else PH r t
def kk (n:Nat):Nat:=n
def gv (n:Nat):Bool:=bL [108,157,47,72,75,76,77,101,126,127,128,141] n
def frs (n:Nat):Bool:=bL [59,69,70,74,108,156,157,170,131,132,174,137,138,187,140,151] n
def TL:List (Nat×Nat):=[(59,60),(69,4),(70,9),(74,40),(108,60),(156,58),(157,58),(170,5),(131,5),(132,5),(174,5),(137,5),(138,5)]
def IW:List (Nat×FloatKind)->Nat->Option FloatKind
 |[],_=>none
 |(k,s)::r,t=>bif sh k t then some s else IW r t
def LR:List (Nat×FloatKind):=[(215,.f64)]
theorem LS: ∀t k,IW LR t=some k->Tryz.prog.underlying t=some (.float k):=by
 intro t k h;unfold LR at h;simp only [IW] at h;cases hb:sh 215 t with
 |true=>rw [hb] at h;have ht:=AT hb;subst ht;simp only [cond_true,aai] at h;subst h;exact Tryz.underlying215
 |false=>
 rw [hb] at h;simp only [cond_false] at h;cases h
def LU:List (Nat×(Nat×Bool)):=[(197,(9,false)),(249,(251,false))]
def Gk:List (Nat×(Nat×List LK))->Nat->Option (Nat×List LK)
 |[],_=>none
 |(k,s)::r,t=>bif sh k t then some s else Gk r t
abbrev acS:List LK:=[.k (.i .i64),.k (.i .i64),.k (.i .i64),.k (.i .i64),.k (.b),.k (.i .i64),.k (.s),.k (.l),.k (.l),.k (.i .i64),.k (.i .i64),.k (.l),.k (.l),.k (.l),.k (.b),.k (.s),.k (.l),.k (.i .i64)]
abbrev acT:List LK:=[.k (.i .i64),.k (.i .i64),.k (.l),.k (.l),.k (.l),.k (.l)]
abbrev Gl:List LK:=[.k (.i .i64),.k (.i .i64),.k (.l),.k (.l),.own 2000004 40 false,.k (.l)]
abbrev LV:List LK:=[.k (.i .i64),.k (.i .i64),.k (.l),.k (.l),.k (.l),.k (.b),.k (.s)]
abbrev LW:List LK:=[.k (.l),.k (.i .i64)]
def NH:List (Nat×(Nat×List LK)):=[(47,(0,acS)),(72,(0,acT)),(75,(0,Gl)),(76,(0,Gl)),(77,(0,Gl)),(101,(1,LV)),(126,(0,LW)),(127,(0,LW)),(128,(0,LW)),(141,(0,Gl))]
def dl (n:Nat):Bool:=bL [] n
def cx:Ctx:=⟨vz Im,kk,λ_ _=>none,gv,frs,PH TL,Gk NH,[],0,[],[],λ_=>[],IW LR,DD LU,λ_=>[],λ_=>default,λ_=>default,λ_=>default,dl,[]⟩
def Ou (g:Nat->List MV->Option MV)(par:List (Nat×Nat))(n:Nat)(bs fl:List Nat)(fz ord:List (Nat×List Nat))(zb AL wH:List (Nat×pJ))(dyn:List Nat):Ctx:=⟨vz Im,kk,g,gv,frs,PH TL,Gk NH,par,n,bs,fl,PG fz,IW LR,DD LU,PG ord,IV zb,IV AL,IV wH,dl,dyn⟩
theorem PJ:xU Tryz.prog cx:=Ir (l:=LU) (by kernel_rfl) (λ_ _ h=>h)
def mB (t:Nat):TI:=match vz Im t with|some I=>I|none=>⟨false,0,0,[],[],[],[],0,[]⟩
theorem tv4:cx.tv 4=some (mB 4):=by kernel_rfl
theorem tv9:cx.tv 9=some (mB 9):=by kernel_rfl
theorem amE:cx.tv 24=some (mB 24):=by kernel_rfl
theorem amF:cx.tv 25=some (mB 25):=by kernel_rfl
theorem aie:cx.tv 31=some (mB 31):=by kernel_rfl
theorem aif:cx.tv 38=some (mB 38):=by kernel_rfl
theorem amG:cx.tv 40=some (mB 40):=by kernel_rfl
theorem aih:cx.tv 58=some (mB 58):=by kernel_rfl
theorem aii:cx.tv 60=some (mB 60):=by kernel_rfl
theorem amH:cx.tv 82=some (mB 82):=by kernel_rfl
theorem DS:sw Tryz.prog cx:=by intro n hn;unfold cx dl bL at hn;cases hn
abbrev GT:=Nat->List MV->Option MV
abbrev SG (g:GT):Prop:=dB Tryz.prog cx g
theorem aeM {g:GT}(h:SG g):SG (bI 59 (jX 6 72) g):=h.RX (λ_=>rfl) (λms r hr=>by obtain ⟨xs,rfl,rfl,h1,h2⟩:=rU hr;exact zX (P:=Tryz.prog) (c:=cx) (f:=59) (fn:=Tryz.f59) (t:=38) (I:=mB 38) (E:=mB 60) (i0:=0) (i1:=1) (i2:=2) (i3:=3) (oA:=jF Tryz.f59 jG 0) (oB:=jF Tryz.f59 jG 1) (oC:=jF Tryz.f59 jG 2) (oD:=jF Tryz.f59 jG 3) (oE:=jF Tryz.f59 jG 4) (oF:=jF Tryz.f59 jG 5) (oG:=jF Tryz.f59 jG 6) (oH:=jF Tryz.f59 jG 7) q9 aif (by kernel_rfl) aii (IN (by kernel_rfl)) (by kernel_rfl) (by kernel_rfl) Tryz.func59 (by kernel_rfl) (by kernel_rfl) (by kernel_rfl) (by kernel_rfl) ⟨by kernel_rfl,by kernel_rfl,by kernel_rfl⟩ ⟨by kernel_rfl,by kernel_rfl,by kernel_rfl⟩ ⟨by kernel_rfl,by kernel_rfl,by kernel_rfl⟩ ⟨by kernel_rfl,by kernel_rfl,by kernel_rfl⟩ ⟨by kernel_rfl,by kernel_rfl,by kernel_rfl⟩ ⟨by kernel_rfl,by kernel_rfl,by kernel_rfl⟩ ⟨by kernel_rfl,by kernel_rfl,by kernel_rfl⟩ ⟨by kernel_rfl,by kernel_rfl,by kernel_rfl⟩ (by rw [show (mB 60).size=6 by kernel_rfl];exact h1) (by rw [show (mB 60).bytes=72 by kernel_rfl];exact h2))
theorem aeN {g:GT}(h:SG g):SG (bI 69 (jX 1 1) g):=h.RX (λ_=>rfl) (λms r hr=>by obtain ⟨xs,rfl,rfl,h1,h2⟩:=rU hr;exact zX (P:=Tryz.prog) (c:=cx) (f:=69) (fn:=Tryz.f69) (t:=24) (I:=mB 24) (E:=mB 4) (i0:=0) (i1:=1) (i2:=2) (i3:=3) (oA:=jF Tryz.f69 jG 0) (oB:=jF Tryz.f69 jG 1) (oC:=jF Tryz.f69 jG 2) (oD:=jF Tryz.f69 jG 3) (oE:=jF Tryz.f69 jG 4) (oF:=jF Tryz.f69 jG 5) (oG:=jF Tryz.f69 jG 6) (oH:=jF Tryz.f69 jG 7) q9 amE (by kernel_rfl) tv4 (IN (by kernel_rfl)) (by kernel_rfl) (by kernel_rfl) Tryz.func69 (by kernel_rfl) (by kernel_rfl) (by kernel_rfl) (by kernel_rfl) ⟨by kernel_rfl,by kernel_rfl,by kernel_rfl⟩ ⟨by kernel_rfl,by kernel_rfl,by kernel_rfl⟩ ⟨by kernel_rfl,by kernel_rfl,by kernel_rfl⟩ ⟨by kernel_rfl,by kernel_rfl,by kernel_rfl⟩ ⟨by kernel_rfl,by kernel_rfl,by kernel_rfl⟩ ⟨by kernel_rfl,by kernel_rfl,by kernel_rfl⟩ ⟨by kernel_rfl,by kernel_rfl,by kernel_rfl⟩ ⟨by kernel_rfl,by kernel_rfl,by kernel_rfl⟩ (by rw [show (mB 4).size=1 by kernel_rfl];exact h1) (by rw [show (mB 4).bytes=1 by kernel_rfl];exact h2))
theorem aeO {g:GT}(h:SG g):SG (bI 70 (jX 1 16) g):=h.RX (λ_=>rfl) (λms r hr=>by obtain ⟨xs,rfl,rfl,h1,h2⟩:=rU hr;exact zX (P:=Tryz.prog) (c:=cx) (f:=70) (fn:=Tryz.f70) (t:=25) (I:=mB 25) (E:=mB 9) (i0:=0) (i1:=1) (i2:=2) (i3:=3) (oA:=jF Tryz.f70 jG 0) (oB:=jF Tryz.f70 jG 1) (oC:=jF Tryz.f70 jG 2) (oD:=jF Tryz.f70 jG 3) (oE:=jF Tryz.f70 jG 4) (oF:=jF Tryz.f70 jG 5) (oG:=jF Tryz.f70 jG 6) (oH:=jF Tryz.f70 jG 7) q9 amF (by kernel_rfl) tv9 (IN (by kernel_rfl)) (by kernel_rfl) (by kernel_rfl) Tryz.func70 (by kernel_rfl) (by kernel_rfl) (by kernel_rfl) (by kernel_rfl) ⟨by kernel_rfl,by kernel_rfl,by kernel_rfl⟩ ⟨by kernel_rfl,by kernel_rfl,by kernel_rfl⟩ ⟨by kernel_rfl,by kernel_rfl,by kernel_rfl⟩ ⟨by kernel_rfl,by kernel_rfl,by kernel_rfl⟩ ⟨by kernel_rfl,by kernel_rfl,by kernel_rfl⟩ ⟨by kernel_rfl,by kernel_rfl,by kernel_rfl⟩ ⟨by kernel_rfl,by kernel_rfl,by kernel_rfl⟩ ⟨by kernel_rfl,by kernel_rfl,by kernel_rfl⟩ (by rw [show (mB 9).size=1 by kernel_rfl];exact h1) (by rw [show (mB 9).bytes=16 by kernel_rfl];exact h2))
theorem aeP {g:GT}(h:SG g):SG (bI 74 (jX 18 256) g):=h.RX (λ_=>rfl) (λms r hr=>by obtain ⟨xs,rfl,rfl,h1,h2⟩:=rU hr;exact zX (P:=Tryz.prog) (c:=cx) (f:=74) (fn:=Tryz.f74) (t:=82) (I:=mB 82) (E:=mB 40) (i0:=0) (i1:=1) (i2:=2) (i3:=3) (oA:=jF Tryz.f74 jG 0) (oB:=jF Tryz.f74 jG 1) (oC:=jF Tryz.f74 jG 2) (oD:=jF Tryz.f74 jG 3) (oE:=jF Tryz.f74 jG 4) (oF:=jF Tryz.f74 jG 5) (oG:=jF Tryz.f74 jG 6) (oH:=jF Tryz.f74 jG 7) q9 amH (by kernel_rfl) amG (IN (by kernel_rfl)) (by kernel_rfl) (by kernel_rfl) Tryz.func74 (by kernel_rfl) (by kernel_rfl) (by kernel_rfl) (by kernel_rfl) ⟨by kernel_rfl,by kernel_rfl,by kernel_rfl⟩ ⟨by kernel_rfl,by kernel_rfl,by kernel_rfl⟩ ⟨by kernel_rfl,by kernel_rfl,by kernel_rfl⟩ ⟨by kernel_rfl,by kernel_rfl,by kernel_rfl⟩ ⟨by kernel_rfl,by kernel_rfl,by kernel_rfl⟩ ⟨by kernel_rfl,by kernel_rfl,by kernel_rfl⟩ ⟨by kernel_rfl,by kernel_rfl,by kernel_rfl⟩ ⟨by kernel_rfl,by kernel_rfl,by kernel_rfl⟩ (by rw [show (mB 40).size=18 by kernel_rfl];exact h1) (by rw [show (mB 40).bytes=256 by kernel_rfl];exact h2))
theorem aeQ:LG Tryz.prog 108 38 3 4 60 163 Tryz.f108 (λk=>k) (jF Tryz.f108 jG) (TD (jF Tryz.f108 jG)):=by refine ⟨Tryz.func108,by kernel_rfl,by kernel_rfl,by kernel_rfl,by kernel_rfl,?_,Ab,by kernel_rfl⟩;constructor<;>first|exact ⟨by kernel_rfl,by kernel_rfl,by kernel_rfl⟩|kernel_rfl
theorem aij: ∀args w,(callFunc 163 args).run Tryz.prog w=((IS #[38,38] #[4] args).run Tryz.prog w).andThen λv w'=> .ok (.value v) w':=λargs w=>run_callFunc_extern Tryz.func163 (by kernel_rfl) (by kernel_rfl) (by kernel_rfl) (e:=IS #[38,38] #[4]) (by kernel_rfl) args w
theorem abm {g:GT}(h:SG g):SG (bI 108 (pS 72) g):=h.RX (λ_=>rfl) (λms r hr=>by obtain ⟨xs,ys,i,rfl,rfl,h1,h2,h3⟩:=DK hr;exact LI (P:=Tryz.prog) (c:=cx) (I:=mB 38) (E:=mB 60) aeQ q9 aif (by kernel_rfl) aii (IN (by kernel_rfl)) (by kernel_rfl) (by kernel_rfl) (by kernel_rfl) (by kernel_rfl) aij h1 h2 (by rw [show (mB 60).bytes=72 by kernel_rfl];exact h3))
theorem abn {g:GT}(h:SG g):SG (bI 156 (jX 3 32) g):=h.RX (λ_=>rfl) (λms r hr=>by obtain ⟨xs,rfl,rfl,h1,h2⟩:=rU hr;exact zX (P:=Tryz.prog) (c:=cx) (f:=156) (fn:=Tryz.f156) (t:=31) (I:=mB 31) (E:=mB 58) (i0:=0) (i1:=1) (i2:=2) (i3:=3) (oA:=jF Tryz.f156 jG 0) (oB:=jF Tryz.f156 jG 1) (oC:=jF Tryz.f156 jG 2) (oD:=jF Tryz.f156 jG 3) (oE:=jF Tryz.f156 jG 4) (oF:=jF Tryz.f156 jG 5) (oG:=jF Tryz.f156 jG 6) (oH:=jF Tryz.f156 jG 7) q9 aie (by kernel_rfl) aih (IN (by kernel_rfl)) (by kernel_rfl) (by kernel_rfl) Tryz.func156 (by kernel_rfl) (by kernel_rfl) (by kernel_rfl) (by kernel_rfl) ⟨by kernel_rfl,by kernel_rfl,by kernel_rfl⟩ ⟨by kernel_rfl,by kernel_rfl,by kernel_rfl⟩ ⟨by kernel_rfl,by kernel_rfl,by kernel_rfl⟩ ⟨by kernel_rfl,by kernel_rfl,by kernel_rfl⟩ ⟨by kernel_rfl,by kernel_rfl,by kernel_rfl⟩ ⟨by kernel_rfl,by kernel_rfl,by kernel_rfl⟩ ⟨by kernel_rfl,by kernel_rfl,by kernel_rfl⟩ ⟨by kernel_rfl,by kernel_rfl,by kernel_rfl⟩ (by rw [show (mB 58).size=3 by kernel_rfl];exact h1) (by rw [show (mB 58).bytes=32 by kernel_rfl];exact h2))
theorem aeR:LG Tryz.prog 157 31 3 4 58 181 Tryz.f157 (λk=>k) (jF Tryz.f157 jG) (TD (jF Tryz.f157 jG)):=by refine ⟨Tryz.func157,by kernel_rfl,by kernel_rfl,by kernel_rfl,by kernel_rfl,?_,Ab,by kernel_rfl⟩;constructor<;>first|exact ⟨by kernel_rfl,by kernel_rfl,by kernel_rfl⟩|kernel_rfl
theorem aik: ∀args w,(callFunc 181 args).run Tryz.prog w=((IS #[31,31] #[4] args).run Tryz.prog w).andThen λv w'=> .ok (.value v) w':=λargs w=>run_callFunc_extern Tryz.func181 (by kernel_rfl) (by kernel_rfl) (by kernel_rfl) (e:=IS #[31,31] #[4]) (by kernel_rfl) args w
theorem abo {g:GT}(h:SG g):SG (bI 157 (pS 32) g):=h.RX (λ_=>rfl) (λms r hr=>by obtain ⟨xs,ys,i,rfl,rfl,h1,h2,h3⟩:=DK hr;exact LI (P:=Tryz.prog) (c:=cx) (I:=mB 31) (E:=mB 58) aeR q9 aie (by kernel_rfl) aih (IN (by kernel_rfl)) (by kernel_rfl) (by kernel_rfl) (by kernel_rfl) (by kernel_rfl) aik h1 h2 (by rw [show (mB 58).bytes=32 by kernel_rfl];exact h3))
def H59:GT:=bI 59 (jX 6 72) (λ_ _=>none)
theorem Yq:SG H59:=aeM (dB.none _ _)
def H69:GT:=bI 69 (jX 1 1) H59
theorem Yr:SG H69:=aeN Yq
def H70:GT:=bI 70 (jX 1 16) H69
theorem Ys:SG H70:=aeO Yr
def H74:GT:=bI 74 (jX 18 256) H70
theorem Yt:SG H74:=aeP Ys
def ail:GT:=bI 108 (pS 72) H74
theorem U0:SG ail:=abm Yt
def aim:GT:=bI 156 (jX 3 32) ail
theorem U1:SG aim:=abn U0
def ain:GT:=bI 157 (pS 32) aim
theorem U2:SG ain:=abo U1
abbrev acU:List LK:=[.k (.i .i64),.k (.i .i64),.k (.l),.k (.l),.own 2000004 40 false,.k (.l)]
def Hl:List (Nat×(Nat×List LK)):=(72,(0,acU))::NH
def TM:Ctx:=⟨vz Im,kk,λ_ _=>none,gv,frs,PH TL,Gk Hl,[],0,[],[],λ_=>[],IW LR,DD LU,λ_=>[],λ_=>default,λ_=>default,λ_=>default,dl,[]⟩
def aeS (g:GT)(par:List (Nat×Nat))(n:Nat)(bs fl:List Nat)(fz ord:List (Nat×List Nat))(zb AL wH:List (Nat×pJ))(dyn:List Nat):Ctx:=⟨vz Im,kk,g,gv,frs,PH TL,Gk Hl,par,n,bs,fl,PG fz,IW LR,DD LU,PG ord,IV zb,IV AL,IV wH,dl,dyn⟩
theorem aeT:xU Tryz.prog TM:=Ir (l:=LU) (by kernel_rfl) (λ_ _ h=>h)
theorem Yu:sw Tryz.prog TM:=by intro n hn;unfold TM dl bL at hn;cases hn
theorem Yv:Gf 72 cx TM:=⟨rfl,rfl,rfl,rfl,rfl,λk hk=>by
 show Gk Hl k=Gk NH k;unfold Hl Gk;rw [show sh 72 k=false from by
  cases hb:sh 72 k with
  |false=>rfl
  |true=>exact absurd (AT hb).symm hk]
 rfl⟩
theorem aeU:Gf 72 TM cx:=⟨rfl,rfl,rfl,rfl,rfl,λk hk=>(Yv.sig k hk).symm⟩
theorem Bw {g:GT}(s:SG g)(dm:List (List Kd))(par:List (Nat×Nat))(tn:Nat)(bs fl:List Nat)(fz ord:List (Nat×List Nat))(zb AL wH:List (Nat×pJ))(dyn:List Nat){n:Nat}{fn:Func}{F:List MV->Option MV}(hf:Tryz.prog.funcs[n]? =some fn)(hh:BW (Ou g par tn bs fl fz ord zb AL wH dyn) n fn dm=true)(hF: ∀{ms r},F ms=some r->Ld (Ou g par tn bs fl fz ord zb AL wH dyn) dm none fn ms=some r):SG (bI n F g):=s.fn (c':=Ou g par tn bs fl fz ord zb AL wH dyn) ⟨rfl,rfl,rfl,rfl,rfl,rfl,rfl,rfl,rfl⟩ rfl q9 LQ LS PJ Ab DS hf hh (λ_=>rfl) (fresh:=none) rfl hF
theorem qG {g:GT}(s:SG g)(dm:List (List Kd))(tn:Nat)(zb AL wH:List (Nat×pJ)){n:Nat}{fn:Func}{F:List MV->Option MV}(hf:Tryz.prog.funcs[n]? =some fn)(hh:BW (Ou g [] tn [] [] [] [] zb AL wH []) n fn dm=true)(hF: ∀{ms r},F ms=some r->Ld (Ou g [] tn [] [] [] [] zb AL wH []) dm none fn ms=some r):SG (bI n F g):=Bw s dm [] tn [] [] [] [] zb AL wH [] hf hh hF
theorem fnC {g:GT}(s:SG g)(pos:Nat)(ks:List LK)(dm:List (List Kd))(par:List (Nat×Nat))(tn:Nat)(bs fl:List Nat)(fz ord:List (Nat×List Nat))(zb AL wH:List (Nat×pJ))(dyn:List Nat){n:Nat}{fn:Func}{F:List MV->Option MV}(hf:Tryz.prog.funcs[n]? =some fn)(hs:cx.sig n=some (pos,ks))(hh:Ps (Ou g par tn bs fl fz ord zb AL wH dyn) n fn dm=true)(hF: ∀{ms r},F ms=some r->Dg (Ou g par tn bs fl fz ord zb AL wH dyn) dm pos ks fn ms=some r):SG (bI n F g):=s.fnC q9 LQ LS PJ Ab DS hf hs (λ_=>rfl) λh=>⟨Ou g par tn bs fl fz ord zb AL wH dyn,⟨rfl,rfl,rfl,rfl,rfl,rfl,rfl,rfl,rfl⟩,rfl,hh,hF h⟩
theorem Yw {g:GT}(s:dB Tryz.prog TM g)(pos:Nat)(ks:List LK)(dm:List (List Kd))(par:List (Nat×Nat))(tn:Nat)(bs fl:List Nat)(fz ord:List (Nat×List Nat))(zb AL wH:List (Nat×pJ))(dyn:List Nat){n:Nat}{fn:Func}{F:List MV->Option MV}(hf:Tryz.prog.funcs[n]? =some fn)(hs:TM.sig n=some (pos,ks))(hh:Ps (aeS g par tn bs fl fz ord zb AL wH dyn) n fn dm=true)(hF: ∀{ms r},F ms=some r->Dg (aeS g par tn bs fl fz ord zb AL wH dyn) dm pos ks fn ms=some r):dB Tryz.prog TM (bI n F g):=s.fnC q9 LQ LS aeT Ab Yu hf hs (λ_=>rfl) λh=>⟨aeS g par tn bs fl fz ord zb AL wH dyn,⟨rfl,rfl,rfl,rfl,rfl,rfl,rfl,rfl,rfl⟩,rfl,hh,hF h⟩
theorem fnF {g:GT}(s:SG g)(ty:Nat)(dm:List (List Kd))(par:List (Nat×Nat))(tn:Nat)(bs fl:List Nat)(fz ord:List (Nat×List Nat))(zb AL wH:List (Nat×pJ))(dyn:List Nat){n:Nat}{fn:Func}{F:List MV->Option MV}(hf:Tryz.prog.funcs[n]? =some fn)(hh:BW (Ou g par tn bs fl fz ord zb AL wH dyn) n fn dm=true)(GO:Cy (Ou g par tn bs fl fz ord zb AL wH dyn) n fn (some ty)=true)(hF: ∀{ms r},F ms=some r->Ld (Ou g par tn bs fl fz ord zb AL wH dyn) dm (some ty) fn ms=some r):SG (bI n F g):=s.fn (c':=Ou g par tn bs fl fz ord zb AL wH dyn) ⟨rfl,rfl,rfl,rfl,rfl,rfl,rfl,rfl,rfl⟩ rfl q9 LQ LS PJ Ab DS hf hh (λ_=>rfl) GO hF
theorem fnX {g:GT}(s:SG g)(dm:List (List Kd))(par:List (Nat×Nat))(tn:Nat)(bs fl:List Nat)(fz ord:List (Nat×List Nat))(zb AL wH:List (Nat×pJ))(dyn:List Nat){n:Nat}{fn:Func}{F:List MV->Option MV}(hf:Tryz.prog.funcs[n]? =some fn)(hh:BW (Ou g par tn bs fl fz ord zb AL wH dyn) n fn dm=true)(hF: ∀{ms r},F ms=some r->Py (Ou g par tn bs fl fz ord zb AL wH dyn) dm none fn ms=some r):SG (bI n F g):=s.fnX (c':=Ou g par tn bs fl fz ord zb AL wH dyn) ⟨rfl,rfl,rfl,rfl,rfl,rfl,rfl,rfl,rfl⟩ rfl q9 LQ LS PJ Ab DS hf hh (λ_=>rfl) (fresh:=none) rfl hF
abbrev cl1 (d:List MV->Option MV):List MV->Option MV:=λms=>match ms with|[.cell (.func off a0)]=>(match sh off 0 with|true=>d a0|false=>none)|_=>none
theorem R2 {d:List MV->Option MV}{B:List MV->Option MV}(h: ∀a0,B [.cell (.func 0 a0)]=d a0){ms:List MV}{r:MV}(e:cl1 d ms=some r):B ms=some r:=by
 unfold cl1 at e;split at e
 ·rename_i off a0;cases ho:sh off 0 with
  |true=>have:=AT ho;subst this;exact (h _).trans e
  |false=>rw [ho] at e;cases e
 ·cases e
abbrev cl2 (d:List MV->MV->Option MV):List MV->Option MV:=λms=>match ms with|[.cell (.func off a0),a1]=>(match sh off 0 with|true=>d a0 a1|false=>none)|_=>none
theorem R3 {d:List MV->MV->Option MV}{B:List MV->Option MV}(h: ∀a0 a1,B [.cell (.func 0 a0),a1]=d a0 a1){ms:List MV}{r:MV}(e:cl2 d ms=some r):B ms=some r:=by
 unfold cl2 at e;split at e
 ·rename_i off a0 a1;cases ho:sh off 0 with
  |true=>have:=AT ho;subst this;exact (h _ _).trans e
  |false=>rw [ho] at e;cases e
 ·cases e
abbrev cl3 (d:List MV->MV->MV->Option MV):List MV->Option MV:=λms=>match ms with|[.cell (.func off a0),a1,a2]=>(match sh off 0 with|true=>d a0 a1 a2|false=>none)|_=>none
theorem Yx {d:List MV->MV->MV->Option MV}{B:List MV->Option MV}(h: ∀a0 a1 a2,B [.cell (.func 0 a0),a1,a2]=d a0 a1 a2){ms:List MV}{r:MV}(e:cl3 d ms=some r):B ms=some r:=by
 unfold cl3 at e;split at e
 ·rename_i off a0 a1 a2;cases ho:sh off 0 with
  |true=>have:=AT ho;subst this;exact (h _ _ _).trans e
  |false=>rw [ho] at e;cases e
 ·cases e
abbrev cl4 (d:List MV->MV->MV->MV->Option MV):List MV->Option MV:=λms=>match ms with|[.cell (.func off a0),a1,a2,a3]=>(match sh off 0 with|true=>d a0 a1 a2 a3|false=>none)|_=>none
theorem Yy {d:List MV->MV->MV->MV->Option MV}{B:List MV->Option MV}(h: ∀a0 a1 a2 a3,B [.cell (.func 0 a0),a1,a2,a3]=d a0 a1 a2 a3){ms:List MV}{r:MV}(e:cl4 d ms=some r):B ms=some r:=by
 unfold cl4 at e;split at e
 ·rename_i off a0 a1 a2 a3;cases ho:sh off 0 with
  |true=>have:=AT ho;subst this;exact (h _ _ _ _).trans e
  |false=>rw [ho] at e;cases e
 ·cases e
def Bf (a a1:MV):Option MV:=gA a λcs=>
 gC cs λm uW=>
 gI .i64 m λSF=>
 gC uW λm1 qe=>
 gI .i64 m1 λST=>
 gC qe λm2 n6=>
 gL m2 λcQ=>
 gC n6 λm3 CG=>
 gL m3 λWant=>
 gN CG<|
 gL a1 λmC=>
 bd (
 bl (decide ((2:Int)<SF)) (
 some [.b true]) (
 bq cQ λlen=>
 bl (decide ((30:Int)<(len:Int))) (
 some [.b true]) (
 bq Want λez=>
 bl (decide ((30:Int)<(ez:Int))) (
 some [.b true]) (
 bq mC λlB=>
 some [.b (decide ((80:Int)<(lB:Int)))])))) λvs=>
 gC vs λm4 CH=>
 gB m4 λx=>
 gN CH<|
 bl x (
 some (.b false)) (
 bd (Loop (λFk=>
 gC Fk λm5 NI=>
 gI .i64 m5 λx1=>
 gN NI<|
 bq Want λxg=>
 bl (decide (x1<(xg:Int))) (
 idx Want x1 λy=>
 gS y λx2=>
 bl (decide ((200:Int)<(x2.length:Int))) (
 some (.inr (1,[.b false]))) (
 some (.inl [.i .i64 (eJ .i64 (x1+1))]))) (
 some (.inr (2,[])))) [.i .i64 0]) λp=>
 bl (sh p.1 2) (
 gN p.2<|
 bd (Loop (λCI=>
 gC CI λm6 Ad=>
 gI .i64 m6 λx3=>
 gN Ad<|
 bq mC λCJ=>
 bl (decide (x3<(CJ:Int))) (
 idx mC x3 λy1=>
 gA y1 λfF=>
 n5 fF λKind I J LX LY LZ CK DT Bg tB o4 CL U3 L0 L1 Fl ym yn=>
 bd (
 bl (decide ((200:Int)<(CK.length:Int))) (
 some [.b true]) (
 bl (decide ((200:Int)<(o4.length:Int))) (
 some [.b true]) (
 bq CL λzh=>
 bl (decide ((30:Int)<(zh:Int))) (
 some [.b true]) (
 bq DT λKC=>
 bl (decide ((30:Int)<(KC:Int))) (
 some [.b true]) (
 bl (decide ((200:Int)<(ym.length:Int))) (
 some [.b true]) (
 bq yn λabp=>
 some [.b (decide ((30:Int)<(abp:Int)))])))))) λkl=>
 gC kl λm25 PK=>
 gB m25 λx4=>
 gN PK<|
 bl x4 (
 some (.inr (1,[.b false]))) (
 bd (Loop (λIX=>
 gC IX λm26 PL=>
 gI .i64 m26 λx5=>
 gN PL<|
 bq DT λKD=>
 bl (decide (x5<(KD:Int))) (
 idx DT x5 λy2=>
 gA y2 λqC=>
 il qC λBy jo Has View Value Proof=>
 bq Proof λabq=>
 bl (decide ((30:Int)<(abq:Int))) (
 some (.inr (1,[.b false]))) (
 some (.inl [.i .i64 (eJ .i64 (x5+1))]))) (
 some (.inr (6,[])))) [.i .i64 0]) λp4=>
 bl (sh p4.1 6) (
 gN p4.2<|
 some (.inl [.i .i64 (eJ .i64 (x3+1))])) (
 ca (sh p4.1 1)<|
 gC p4.2 λm33 PM=>
 gB m33 λx6=>
 gN PM<|
 some (.inr (1,[.b x6]))))) (
 some (.inr (4,[])))) [.i .i64 0]) λp3=>
 bl (sh p3.1 4) (
 gN p3.2<|
 some (.b true)) (
 ca (sh p3.1 1)<|
 gC p3.2 λm34 Yz=>
 gB m34 λx7=>
 gN Yz<|
 some (.b x7))) (
 ca (sh p.1 1)<|
 gC p.2 λm35 YA=>
 gB m35 λx8=>
 gN YA<|
 some (.b x8)))
def L2:GT:=bI 8 (iw Bf) ain
theorem KE:SG L2:=qG U2 [] 107 [(12,⟨[1,6,7],[],[],[(0,[(91,.sc (.k .b))])],[]⟩),(1,⟨[1,2],[],[],[(0,[(29,.sc (.k .b))])],[]⟩)] [] [(15,⟨[1,6,7],[],[(8,.sc (.k (.i .i64)))],[(1,[(4,.sc (.k .b))]),(6,[])],[]⟩),(9,⟨[1],[],[(6,.sc (.k (.i .i64)))],[(1,[(4,.sc (.k .b))]),(4,[])],[]⟩),(4,⟨[1,2],[],[(5,.sc (.k (.i .i64)))],[(1,[(4,.sc (.k .b))]),(2,[])],[]⟩)] Tryz.func8 (by kernel_rfl) (bS (λ_ _=>by kernel_rfl))
def rC (sA:MV):Option MV:=gA sA λcs=>
 Dd cs λF T=>
 some (.raw (.complex .f64 (aah .f64 F) (aah .f64 T)))
def BZ:GT:=bI 139 (qY rC) L2
theorem DU:SG BZ:=qG KE [] 10 [] [] [] Tryz.func139 (by kernel_rfl) (eK (λ_=>by kernel_rfl))
def jP (sA times:MV):Option MV:=gA sA λcs=>
 Dd cs λF T=>
 gR times λYB=>
 bd (rC (.agg [.i .i64 F,.i .i64 T])) λrA=>
 gR rA λx=>
 Z4 x λre im=>
 Z4 YB λre1 im1=>
 bd (FloatKind.f64.format.mul re re1) λf=>
 Z4 x λre2 im2=>
 Z4 YB λre3 im3=>
 bd (FloatKind.f64.format.mul im2 im3) λf1=>
 bd (FloatKind.f64.format.add f f1) λf2=>
 bd ((FloatKind.decode .f64 f2).toInt .zero) λn=>
 ca (decide (IntKind.min .i64<=n/\n<=IntKind.max .i64))<|
 some (.i .i64 (eJ .i64 (n+1)))
def Gm:GT:=bI 71 (iw jP) BZ
theorem GV:SG Gm:=qG DU [] 21 [] [] [] Tryz.func71 (by kernel_rfl) (bS (λ_ _=>by kernel_rfl))
def sB (sA:MV):Option MV:=gA sA λcs=>
 Dd cs λF T=>
 bd (jP (.agg [.i .i64 F,.i .i64 T]) (.raw (.complex .f64 4613937818241073152 4611686018427387904))) λrA=>
 gI .i64 rA λx=>
 some (.i .i64 x)
def YC:GT:=bI 27 (qY sB) Gm
theorem R4:SG YC:=qG GV [] 5 [] [] [] Tryz.func27 (by kernel_rfl) (eK (λ_=>by kernel_rfl))
def lg (sA:MV):Option MV:=gA sA λcs=>
 Dd cs λF T=>
 bd (
 bl (decide ((1:Int)<=F)) (
 bl (decide (F<=5)) (
 bl (decide ((0:Int)<=T)) (
 some [.b (decide (T<=F))]) (
 some [.b false])) (
 some [.b false])) (
 some [.b false])) λvs=>
 gC vs λm2 n6=>
 gB m2 λx=>
 gN n6<|
 some (.b x)
def IY:GT:=bI 68 (qY lg) YC
theorem IZ:SG IY:=qG R4 [] 23 [(1,⟨[1],[],[],[(0,[(2,.sc (.k .b))])],[]⟩)] [] [] Tryz.func68 (by kernel_rfl) (eK (λ_=>by kernel_rfl))
def qf (sA me:MV):Option MV:=gA sA λcs=>
 Dd cs λF T=>
 gI .i64 me λYD=>
 bd (
 bd (lg (.agg [.i .i64 F,.i .i64 T])) λrA=>
 gB rA λx=>
 bl (!x) (
 some [.b true]) (
 bl (decide (YD<0)) (
 some [.b true]) (
 bd (sB (.agg [.i .i64 F,.i .i64 T])) λbc=>
 gI .i64 bc λx1=>
 some [.b (decide (x1<=YD))]))) λvs=>
 gC vs λm2 n6=>
 gB m2 λx2=>
 gN n6<|
 bl x2 (
 some (.ej [.agg (cK 0 0 0 0 false 0 ([]:List UInt8) ([]:List MV) ([]:List MV)),.i .i64 1])) (
 some (.ej [.agg (cK F T YD 0 false 0 ([]:List UInt8) ([]:List MV) ([]:List MV)),.i .i64 0]))
def DV:GT:=bI 35 (iw qf) IY
theorem Fm:SG DV:=qG IZ [] 23 [(1,⟨[1,2,4],[],[],[(0,[(18,.sc (.k .b))])],[]⟩)] [] [] Tryz.func35 (by kernel_rfl) (bS (λ_ _=>by kernel_rfl))
def sa (sA:MV):Option MV:=gA sA λcs=>
 Dd cs λF T=>
 bd (lg (.agg [.i .i64 F,.i .i64 T])) λrA=>
 gB rA λx=>
 bl (!x) (
 some (.ej [.agg (cL 0 0 ([]:List MV) ([]:List MV) ([]:List MV) false ([]:List UInt8)),.i .i64 1])) (
 some (.ej [.agg (cL F T ([]:List MV) ([]:List MV) ([]:List MV) false ([]:List UInt8)),.i .i64 0]))
def Gn:GT:=bI 36 (qY sa) DV
theorem GW:SG Gn:=qG Fm [] 10 [] [] [] Tryz.func36 (by kernel_rfl) (eK (λ_=>by kernel_rfl))
def yo (sA i:MV):Option MV:=gA sA λcs=>
 Dd cs λF T=>
 gI .i64 i λi1=>
 bd (qf (.agg [.i .i64 F,.i .i64 T]) (.i .i64 i1)) λrA=>
 gT rA λvs=>
 gC vs λm2 n6=>
 gA m2 λfF=>
 fI fF λSF ST Me View Has At Value Proof iy=>
 gC n6 λDR lC=>
 gI .i64 DR λx=>
 gN lC<|
 bl (!decide (x=0)) (
 some (.ej [.agg (av 0 0 0 0 false 0 ([]:List UInt8) ([]:List MV) ([]:List MV) 0 0 ([]:List MV) ([]:List MV) ([]:List MV) false ([]:List UInt8) ([]:List MV) 0),.i .i64 x])) (
 bd (sa (.agg [.i .i64 F,.i .i64 T])) λbc=>
 gT bc λkl=>
 gC kl λKA uh=>
 gA KA λqC=>
 fJ qC λwk wm fh fj pq cq bN=>
 gC uh λm21 DW=>
 gI .i64 m21 λx1=>
 gN DW<|
 some (.ej [.agg (av SF ST Me View Has At Value Proof iy wk wm fh fj pq cq bN ([]:List MV) (-1)),.i .i64 x1]))
def I3:GT:=bI 10 (iw yo) Gn
theorem I4:SG I3:=qG GW [] 28 [] [] [] Tryz.func10 (by kernel_rfl) (bS (λ_ _=>by kernel_rfl))
def Ae (a a1 a2:MV):Option MV:=gA a λcs=>
 Dd cs λF T=>
 gL a1 λmC=>
 gL a2 λYE=>
 bd (
 bd (lg (.agg [.i .i64 F,.i .i64 T])) λrA=>
 gB rA λx=>
 bl (!x) (
 some [.b true]) (
 bq mC λlen=>
 bd (sB (.agg [.i .i64 F,.i .i64 T])) λbc=>
 gI .i64 bc λx1=>
 bl (!decide ((len:Int)=x1)) (
 some [.b true]) (
 bq YE λez=>
 bq mC λlB=>
 some [.b (!decide ((ez:Int)=(lB:Int)))]))) λvs=>
 gC vs λm2 n6=>
 gB m2 λx2=>
 gN n6<|
 bl x2 (
 some (.ej [.agg (ba 0 0 ([]:List MV) ([]:List MV) ([]:List MV) ([]:List MV)),.i .i64 1])) (
 bd (jX 1 1 [.list mC]) λbQ=>
 gF bQ λxs=>
 bd (jX 1 16 [.list YE]) λct=>
 gF ct λGX=>
 bq mC λxg=>
 bd (Loop (λCG=>
 gC CG λm3 CH=>
 gI .i64 m3 λx3=>
 gC CH λm4 Fk=>
 gI .i64 m4 λx4=>
 gC Fk λm5 NI=>
 gL m5 λx5=>
 gC NI λm6 CI=>
 gL m6 λx6=>
 gC CI λm7 Ad=>
 gL m7 λx7=>
 gC Ad λm8 ui=>
 gL m8 λx8=>
 gC ui λm9 xh=>
 gI .i64 m9 λx9=>
 gC xh λNF xi=>
 gI .i64 NF λqE=>
 gC xi λKz lC=>
 gL Kz λKF=>
 gC lC λDR uh=>
 gL DR λOv=>
 gC uh λKA xj=>
 gL KA λR5=>
 gC xj λIQ uj=>
 gL IQ λrB=>
 Dd uj λr8 r9=>
 bl (decide (r9<(xg:Int))) (
 idx mC r9 λy=>
 gB y λtA=>
 bd (
 bl tA (
 some (0,[.i .i64 (eJ .i64 (r8-1))])) (
 some (0,[.i .i64 r8]))) λp1=>
 ca (sh p1.1 0)<|
 gC p1.2 λFj na=>
 gI .i64 Fj λxf=>
 gN na<|
 bd (
 idx YE r9 λy1=>
 gS y1 λzx=>
 bl (decide ((6000:Int)<(zx.length:Int))) (
 some [.b true]) (
 some [.b (decide (xf<0))])) λkl=>
 gC kl λKB sb=>
 gB KB λwK=>
 gN sb<|
 bl wK (
 some (.inr (1,(qd 0 0 ([]:List MV) ([]:List MV) ([]:List MV) ([]:List MV) 1)))) (
 bd (yo (.agg [.i .i64 F,.i .i64 T]) (.i .i64 r9)) λgm=>
 gT gm λtV=>
 gC tV λU4 uk=>
 gA U4 λfF=>
 aQ fF λyR yS yT eg lD yU dE dF cG yV yW bG bH dG fm dH df jy=>
 gC uk λm38 PN=>
 gI .i64 m38 λKi=>
 gN PN<|
 bq R5 λCJ=>
 bq ([.agg (av yR yS yT eg lD yU dE dF cG yV yW bG bH dG fm dH df jy)]:List MV) λzh=>
 ca (decide ((CJ+zh) *256<=2^46))<|
 some (.inl [.i .i64 x3,.i .i64 x4,.list x5,.list x6,.list x7,.list x8,.i .i64 x9,.i .i64 qE,.list KF,.list Ov,.list (R5++([.agg (av yR yS yT eg lD yU dE dF cG yV yW bG bH dG fm dH df jy)]:List MV)),.list rB,.i .i64 xf,.i .i64 (eJ .i64 (r9+1))]))) (
 some (.inr (2,[.i .i64 x3,.i .i64 x4,.list x5,.list x6,.list x7,.list x8,.i .i64 x9,.i .i64 qE,.list KF,.list Ov,.list R5,.list rB])))) [.i .i64 0,.i .i64 0,.list ([]:List MV),.list ([]:List MV),.list ([]:List MV),.list ([]:List MV),.i .i64 F,.i .i64 T,.list xs,.list GX,.list ([]:List MV),.list ([]:List MV),.i .i64 F,.i .i64 0]) λp=>
 bl (sh p.1 2) (
 gC p.2 λm39 air=>
 gI .i64 m39 λV2=>
 gC air λm40 ais=>
 gI .i64 m40 λU5=>
 gC ais λm41 ait=>
 gL m41 λU6=>
 gC ait λm42 PO=>
 gL m42 λU7=>
 gC PO λm43 YF=>
 gL m43 λx23=>
 gC YF λm44 PP=>
 gL m44 λV3=>
 cZ PP λTN U8 U9 xs6 xs7 YG=>
 some (.ej [.agg (ba TN U8 U9 xs6 xs7 YG),.i .i64 0])) (
 ca (sh p.1 1)<|
 IR .i64 .i64 .i64 p.2 λZR ZS ZT ZU ZV ZW x34=>
 some (.ej [.agg (ba ZR ZS ZT ZU ZV ZW),.i .i64 x34])))
def PQ:GT:=bI 26 (Bv Ae) I3
theorem NJ:SG PQ:=Bw I4 [] [] 75 [70] [] [] [(3,[0,1,3,2,4,5,6,7])] [(10,⟨[1,2,3,6,8,9,10,40,41],[33,35,71],[],[(0,[(59,.sc (.k .b))])],[33,35,71]⟩),(1,⟨[1,2,3,6],[],[],[(0,[(29,.sc (.k .b))])],[33,35,71]⟩)] [(9,⟨[1,2,3,6,8,10,40,41],[33,35,71],[],[(0,[(9,.sc (.k (.i .i64)))])],[33,35,71]⟩)] [(6,⟨[1,2,3,40],[],[(6,.box [.k (.i .i64),.k (.i .i64),.k .l,.k .l,.k .l,.k .l]),(8,.box [.k (.i .i64),.k (.i .i64),.own 33 4 true,.own 35 9 true,.own 71 40 true,.k .l]),(9,.sc (.k (.i .i64))),(41,.sc (.k (.i .i64)))],[(1,[(6,.box [.k (.i .i64),.k (.i .i64),.k .l,.k .l,.k .l,.k .l]),(7,.sc (.k (.i .i64)))]),(2,[(6,.box [.k (.i .i64),.k (.i .i64),.k .l,.k .l,.k .l,.k .l]),(8,.box [.k (.i .i64),.k (.i .i64),.own 33 4 true,.own 35 9 true,.own 71 40 true,.k .l])])],[33,35,71]⟩)] [] Tryz.func26 (by kernel_rfl) (mj (λ_ _ _=>by kernel_rfl))
def ul (b:MV):Option MV:=gL b λb1=>
 bq b1 λlen=>
 bl (decide ((len:Int)=0)) (
 some (.ej [.i .u64 0,.list ([]:List MV),.i .i64 2])) (
 idx b1 0 λy=>
 gI .u8 y λx=>
 ca (iG 1 b1)<|
 bq b1 λez=>
 ca (decide ((0:Int)<=1/\(1:Int)<=(ez:Int)/\(ez:Int)<=(ez:Int)))<|
 bd (
 bl (decide ((8:Int)<(eJ .i64 x))) (
 some [.b true]) (
 bl (decide ((0:Int)<(eJ .i64 x))) (
 bq (IT (AI 1) (No (AI (ez:Int)) b1)) λlB=>
 bl (decide ((0:Int)<(lB:Int))) (
 idx (IT (AI 1) (No (AI (ez:Int)) b1)) 0 λy1=>
 gI .u8 y1 λx1=>
 some [.b (decide (x1=0))]) (
 some [.b false])) (
 some [.b false]))) λvs=>
 gC vs λm uW=>
 gB m λx2=>
 gN uW<|
 bl x2 (
 some (.ej [.i .u64 0,.list ([]:List MV),.i .i64 3])) (
 bq (IT (AI 1) (No (AI (ez:Int)) b1)) λxg=>
 bl (decide ((xg:Int)<(eJ .i64 x))) (
 some (.ej [.i .u64 0,.list ([]:List MV),.i .i64 2])) (
 bq (IT (AI 1) (No (AI (ez:Int)) b1)) λCJ=>
 ca (decide ((0:Int)<=0/\(0:Int)<=(eJ .i64 x)/\(eJ .i64 x)<=(CJ:Int)))<|
 bq (IT (AI 0) (No (AI (eJ .i64 x)) (IT (AI 1) (No (AI (ez:Int)) b1)))) λzh=>
 bd (Loop (λqe=>
 oII .u64 .i64 qe λn x3=>
 bl (decide (x3<(zh:Int))) (
 idx (IT (AI 0) (No (AI (eJ .i64 x)) (IT (AI 1) (No (AI (ez:Int)) b1)))) x3 λy2=>
 gI .u8 y2 λx4=>
 ca (decide ((0:Int)<=8))<|
 some (.inl [.i .u64 (bOr .u64 (eJ .u64 (n *2^min (AI 8) (BY .u64))) (eJ .u64 x4)),.i .i64 (eJ .i64 (x3+1))])) (
 some (.inr (3,[.i .u64 n])))) [.i .u64 0,.i .i64 0]) λp=>
 ca (sh p.1 3)<|
 gC p.2 λm3 CH=>
 gI .u64 m3 λn1=>
 gN CH<|
 ca (iG 1 (IT (AI 1) (No (AI (ez:Int)) b1)))<|
 bq (IT (AI 1) (No (AI (ez:Int)) b1)) λKC=>
 ca (decide ((0:Int)<=(eJ .i64 x)/\(eJ .i64 x)<=(KC:Int)/\(KC:Int)<=(KC:Int)))<|
 some (.ej [.i .u64 n1,.list (IT (AI (eJ .i64 x)) (No (AI (KC:Int)) (IT (AI 1) (No (AI (ez:Int)) b1)))),.i .i64 0]))))
def I5:GT:=bI 185 (qY ul) PQ
theorem I6:SG I5:=Bw NJ [] [] 60 [] [] [] [(3,[0,1,2,3,4,5,6,7]),(14,[0,1,2,3,4,5,6])] [(4,⟨[5,6],[],[],[(0,[(19,.sc (.k .b))])],[]⟩)] [] [(10,⟨[5,6,44,45],[],[(7,.sc (.k (.i .u64))),(46,.sc (.k (.i .i64)))],[(3,[(7,.sc (.k (.i .u64)))])],[]⟩)] [] Tryz.func185 (by kernel_rfl) (eK (λ_=>by kernel_rfl))
def rD (b:MV):Option MV:=gL b λb1=>
 bd (ul (.list b1)) λrA=>
 gT rA λvs=>
 gC vs λm uW=>
 gI .u64 m λx=>
 Gj uW λx1 x2=>
 ca (decide ((0:Int)<=1))<|
 some (.ej [.i .i64 (ET .i64 (eJ .i64 (OF x (2^min (AI 1) (BY .u64)))) (eJ .i64 (0-(eJ .i64 (QU .u64 x 1))))),.list x1,.i .i64 x2])
def B0:GT:=bI 168 (qY rD) I5
theorem DX:SG B0:=qG I6 [] 24 [] [] [] Tryz.func168 (by kernel_rfl) (eK (λ_=>by kernel_rfl))
def dz (t:List MV):Option MV:=Gj t λb eA=>
 bd (
 bl (decide (eA=0)) (
 bd (rD (.list b)) λrA=>
 gT rA λvs=>
 gC vs λm2 n6=>
 gI .i64 m2 λx=>
 Gj n6 λx1 x2=>
 some (0,[.i .i64 x,.list x1,.i .i64 x2])) (
 some (0,[.i .i64 0,.list b,.i .i64 eA]))) λp=>
 ca (sh p.1 0)<|
 gC p.2 λm5 Fk=>
 gI .i64 m5 λn=>
 Gj Fk λx3 x4=>
 some (.fZ (.i .i64 n) [.list x3,.i .i64 x4])
def um:GT:=bI 126 (cl1 dz) B0
theorem yp:SG um:=fnC DX 0 LW [] [(0,1000000)] 24 [] [] [] [] [] [(2,⟨[0],[],[],[(0,[(2,.sc (.k (.i .i64))),(1000000,.box [.k .l,.k (.i .i64)])])],[]⟩)] [] [] Tryz.func126 (by kernel_rfl) (by kernel_rfl) (R2 λ_=>by kernel_rfl)
def qg (b most:MV):Option MV:=gL b λb1=>
 gI .i64 most λaiv=>
 bd (ul (.list b1)) λrA=>
 gT rA λvs=>
 gC vs λm uW=>
 gI .u64 m λx=>
 Gj uW λx1 x2=>
 bl (!decide (x2=0)) (
 some (.ej [.s ([]:List UInt8),.list ([]:List MV),.i .i64 x2])) (
 bl (decide ((eJ .u64 (imax aiv 0))<x)) (
 some (.ej [.s ([]:List UInt8),.list ([]:List MV),.i .i64 5])) (
 bq x1 λlen=>
 bl (decide ((eJ .u64 (len:Int))<x)) (
 some (.ej [.s ([]:List UInt8),.list ([]:List MV),.i .i64 2])) (
 bq x1 λez=>
 ca (decide ((0:Int)<=0/\(0:Int)<=x/\x<=(ez:Int)))<|
 MJ (IT (AI 0) (No (AI x) x1)) λbs=>
 ca (iG 1 x1)<|
 bq x1 λlB=>
 ca (decide ((0:Int)<=x/\x<=(lB:Int)/\(lB:Int)<=(lB:Int)))<|
 some (.ej [.s bs,.list (IT (AI x) (No (AI (lB:Int)) x1)),.i .i64 0]))))
def Af:GT:=bI 169 (iw qg) um
theorem CM:SG Af:=Bw yp [] [] 39 [] [] [] [(8,[0,1,2,3,4,5,6,7,8,9])] [] [] [] [] Tryz.func169 (by kernel_rfl) (bS (λ_ _=>by kernel_rfl))
def iC (t:List MV):Option MV:=Gj t λb eA=>
 bd (
 bl (decide (eA=0)) (
 bd (qg (.list b) (.i .i64 6000)) λrA=>
 gT rA λvs=>
 gC vs λm2 n6=>
 gS m2 λx=>
 Gj n6 λx1 x2=>
 some (0,[.s x,.list x1,.i .i64 x2])) (
 some (0,[.s ([]:List UInt8),.list b,.i .i64 eA]))) λp=>
 ca (sh p.1 0)<|
 gC p.2 λm5 Fk=>
 gS m5 λsA=>
 Gj Fk λx3 x4=>
 some (.fZ (.s sA) [.list x3,.i .i64 x4])
def sL:GT:=bI 127 (cl1 iC) Af
theorem xk:SG sL:=fnC CM 0 LW [] [(0,1000000)] 24 [] [] [] [] [] [(2,⟨[0],[],[],[(0,[(2,.sc (.k .s)),(1000000,.box [.k .l,.k (.i .i64)])])],[]⟩)] [] [] Tryz.func127 (by kernel_rfl) (by kernel_rfl) (R2 λ_=>by kernel_rfl)
def jQ (t:List MV):Option MV:=Gj t λb eA=>
 bd (dz [.list b,.i .i64 eA]) λrA=>
 gW rA λx ls=>
 Gj ls λb1 eA1=>
 gI .i64 x λx1=>
 bd (
 bl (decide (x1<0)) (
 some [.b true]) (
 some [.b (decide ((100:Int)<x1))])) λvs=>
 gC vs λm4 CH=>
 gB m4 λx2=>
 gN CH<|
 bd (
 bl x2 (
 some (0,[.list b1,.i .i64 3])) (
 some (0,[.list b1,.i .i64 eA1]))) λp=>
 ca (sh p.1 0)<|
 oLI .i64 p.2 λx3 x4=>
 bd (
 bl (!decide (x4=0)) (
 some [.b true]) (
 some [.b (decide (x1=0))])) λkl=>
 gC kl λm7 CI=>
 gB m7 λx5=>
 gN CI<|
 bl x5 (
 some (.fZ (.list ([]:List MV)) [.list x3,.i .i64 x4])) (
 ca (decide ((0:Int)<=x1/\x1=x1/\x1 *32<=2^46))<|
 bq (aaa (AI x1) (.agg [.i .i64 0,.i .i64 0,.s ([]:List UInt8)])) λlen=>
 bd (Loop (λAd=>
 gC Ad λm8 ui=>
 gL m8 λp2=>
 gC ui λm9 xh=>
 gI .i64 m9 λx6=>
 Gj xh λx7 x8=>
 bl (decide (x6<(len:Int))) (
 bd (dz [.list x7,.i .i64 x8]) λbc=>
 gW bc λx9 ls1=>
 Gj ls1 λb2 eA2=>
 gI .i64 x9 λqE=>
 idx p2 x6 λy=>
 gA y λcs=>
 mA cs λBy View Value=>
 some (.inl [.list (p2.set (AI x6) (.agg [.i .i64 qE,.i .i64 View,.s Value])),.i .i64 (eJ .i64 (x6+1)),.list b2,.i .i64 eA2])) (
 some (.inr (2,[.list p2,.list x7,.i .i64 x8])))) [.list (aaa (AI x1) (.agg [.i .i64 0,.i .i64 0,.s ([]:List UInt8)])),.i .i64 0,.list x3,.i .i64 x4]) λp1=>
 ca (sh p1.1 2)<|
 gC p1.2 λFj na=>
 gL Fj λp3=>
 Gj na λrB r8=>
 bd (dz [.list rB,.i .i64 r8]) λbQ=>
 gW bQ λr9 ls2=>
 Gj ls2 λb3 eA3=>
 gI .i64 r9 λtA=>
 bd (iC [.list b3,.i .i64 eA3]) λct=>
 gW ct λxf ls3=>
 Gj ls3 λb4 eA4=>
 gS xf λzx=>
 bq p3 λez=>
 bd (Loop (λYH=>
 Gj YH λp5 wK=>
 bl (decide (wK<(ez:Int))) (
 idx p5 wK λy1=>
 gA y1 λfF=>
 mA fF λNK ek bN=>
 idx (p5.set (AI wK) (.agg [.i .i64 NK,.i .i64 tA,.s bN])) wK λy2=>
 gA y2 λqC=>
 mA qC λBy2 Gp j6=>
 some (.inl [.list ((p5.set (AI wK) (.agg [.i .i64 NK,.i .i64 tA,.s bN])).set (AI wK) (.agg [.i .i64 By2,.i .i64 Gp,.s zx])),.i .i64 (eJ .i64 (wK+1))])) (
 some (.inr (4,[.list p5])))) [.list p3,.i .i64 0]) λp4=>
 ca (sh p4.1 4)<|
 gC p4.2 λm32 YI=>
 gL m32 λp6=>
 gN YI<|
 some (.fZ (.list p6) [.list b4,.i .i64 eA4]))
def sd:GT:=bI 128 (cl1 jQ) sL
theorem wo:SG sd:=fnC xk 0 LW [] [(0,1000000)] 64 [] [] [] [] [(4,⟨[0,3,1000000],[],[],[(0,[(28,.sc (.k .b))])],[]⟩),(2,⟨[0,3,1000000],[],[],[(0,[(16,.sc (.k .b))])],[]⟩)] [(3,⟨[0,3],[],[],[(0,[(1000000,.box [.k .l,.k (.i .i64)])])],[]⟩)] [(14,⟨[6,7,48,1000000],[],[(4,.sc (.own 30 58 false)),(49,.sc (.k (.i .i64)))],[(4,[(4,.sc (.own 30 58 false))])],[]⟩),(8,⟨[0,32],[],[(4,.sc (.own 30 58 false)),(33,.sc (.k (.i .i64))),(1000000,.box [.k .l,.k (.i .i64)])],[(2,[(4,.sc (.own 30 58 false)),(1000000,.box [.k .l,.k (.i .i64)])])],[]⟩)] [] Tryz.func128 (by kernel_rfl) (by kernel_rfl) (R2 λ_=>by kernel_rfl)
def ov (isA:MV):Option MV:=gB isA λamS=>
 bl amS (
 some (.i .i64 1)) (
 some (.i .i64 0))
def B1:GT:=bI 129 (qY ov) sd
theorem DY:SG B1:=qG wo [] 4 [] [] [] Tryz.func129 (by kernel_rfl) (eK (λ_=>by kernel_rfl))
def o6 (sA:MV):Option MV:=gA sA λcs=>
 Dd cs λF T=>
 bd (jP (.agg [.i .i64 F,.i .i64 T]) (.raw (.complex .f64 4611686018427387904 4607182418800017408))) λrA=>
 gI .i64 rA λx=>
 some (.i .i64 x)
def I7:GT:=bI 103 (qY o6) B1
theorem I8:SG I7:=qG DY [] 5 [] [] [] Tryz.func103 (by kernel_rfl) (eK (λ_=>by kernel_rfl))
def nF (a:MV):Option MV:=gA a λcs=>
 mA cs λBy View Value=>
 bd (
 bl (decide ((0:Int)<=By)) (
 bl (decide ((0:Int)<=View)) (
 bl (decide (View<=100000)) (
 some [.b (decide ((Value.length:Int)<=6000))]) (
 some [.b false])) (
 some [.b false])) (
 some [.b false])) λvs=>
 gC vs λm3 CG=>
 gB m3 λx=>
 gN CG<|
 some (.b x)
def L3:GT:=bI 100 (qY nF) I7
theorem KG:SG L3:=qG I8 [] 22 [(1,⟨[1],[],[],[(0,[(2,.sc (.k .b))])],[]⟩)] [] [] Tryz.func100 (by kernel_rfl) (eK (λ_=>by kernel_rfl))
def vI (t:MV):Option MV:=gA t λcs=>
 gC cs λm uW=>
 gL m λL=>
 gN uW<|
 bq L λlen=>
 bd (Loop (λqe=>
 gC qe λm1 n6=>
 gI .i64 m1 λx=>
 gN n6<|
 bl (decide (x<(len:Int))) (
 idx L x λy=>
 gA y λfF=>
 mA fF λBy View Value=>
 bd (
 bd (nF (.agg [.i .i64 By,.i .i64 View,.s Value])) λrA=>
 gB rA λx1=>
 bl (!x1) (
 some [.b true]) (
 bl (decide ((0:Int)<x)) (
 idx L (eJ .i64 (x-1)) λy1=>
 gA y1 λqC=>
 mA qC λNK ek bN=>
 some [.b (decide (By<=NK))]) (
 some [.b false]))) λvs=>
 gC vs λm8 ui=>
 gB m8 λx2=>
 gN ui<|
 bl x2 (
 some (.inr (1,[.b false]))) (
 some (.inl [.i .i64 (eJ .i64 (x+1))]))) (
 some (.inr (2,[])))) [.i .i64 0]) λp=>
 bl (sh p.1 2) (
 gN p.2<|
 some (.b true)) (
 ca (sh p.1 1)<|
 gC p.2 λm9 xh=>
 gB m9 λx3=>
 gN xh<|
 some (.b x3))
def Gq:GT:=bI 160 (qY vI) L3
theorem GY:SG Gq:=Bw KG [] [] 33 [] [] [] [(4,[0,1,2,3,4,5,6,7,8,9,10,11,12,13,14,15,16,17,18])] [(4,⟨[1,3,4,6,7,8],[],[],[(0,[(31,.sc (.k .b))])],[]⟩)] [] [(2,⟨[1,6,7],[],[(8,.sc (.k (.i .i64)))],[(1,[(2,.sc (.k .b))]),(2,[])],[]⟩)] [] Tryz.func160 (by kernel_rfl) (eK (λ_=>by kernel_rfl))
def qh (t view value:MV):Option MV:=gA t λcs=>
 gC cs λm uW=>
 gL m λL=>
 gN uW<|
 gI .i64 view λlE=>
 gS value λra=>
 bq L λlen=>
 bd (Loop (λqe=>
 Gj qe λout x=>
 bl (decide (x<(len:Int))) (
 idx L x λy=>
 gA y λfF=>
 mA fF λBy View Value=>
 bd (
 bl (decide (View=lE)) (
 some [.b (decide (Value=ra))]) (
 some [.b false])) λvs=>
 gC vs λm6 CI=>
 gB m6 λx1=>
 gN CI<|
 bd (
 bl x1 (
 bq out λez=>
 bq ([.agg [.i .i64 By,.i .i64 View,.s Value]]:List MV) λlB=>
 ca (decide ((ez+lB) *32<=2^46))<|
 some (0,[.list (out++([.agg [.i .i64 By,.i .i64 View,.s Value]]:List MV))])) (
 some (0,[.list out]))) λp1=>
 ca (sh p1.1 0)<|
 gC p1.2 λm7 Ad=>
 gL m7 λaeY=>
 gN Ad<|
 some (.inl [.list aeY,.i .i64 (eJ .i64 (x+1))])) (
 some (.inr (2,[.list out])))) [.list ([]:List MV),.i .i64 0]) λp=>
 ca (sh p.1 2)<|
 gC p.2 λm8 ui=>
 gL m8 λamT=>
 gN ui<|
 some (.list amT)
def DZ:GT:=bI 159 (Bv qh) Gq
theorem Fo:SG DZ:=Bw GY [] [] 33 [29] [] [] [] [(5,⟨[1,2,7,9,11,12,13],[30],[],[(0,[(26,.sc (.k .b))])],[30]⟩)] [(6,⟨[1,2,9,11,12,13],[],[],[(0,[(7,.sc (.own 30 58 true))])],[30]⟩)] [(3,⟨[1,2,11,12],[],[(7,.sc (.own 30 58 true)),(13,.sc (.k (.i .i64)))],[(2,[(7,.sc (.own 30 58 true))])],[30]⟩)] [] Tryz.func159 (by kernel_rfl) (mj (λ_ _ _=>by kernel_rfl))
def vJ (t view value:MV):Option MV:=gA t λcs=>
 gC cs λm uW=>
 gL m λL=>
 gN uW<|
 gI .i64 view λlE=>
 gS value λra=>
 bd (qh (.agg [.list L]) (.i .i64 lE) (.s ra)) λrA=>
 gL rA λx=>
 bq x λlen=>
 some (.i .i64 (len:Int))
def Gr:GT:=bI 161 (Bv vJ) DZ
theorem GZ:SG Gr:=qG Fo [] 12 [] [] [] Tryz.func161 (by kernel_rfl) (mj (λ_ _ _=>by kernel_rfl))
def pu (sA p:MV):Option MV:=gA sA λcs=>
 Dd cs λF T=>
 gL p λp1=>
 bd (
 bd (lg (.agg [.i .i64 F,.i .i64 T])) λrA=>
 gB rA λx=>
 bl (!x) (
 some [.b true]) (
 bq p1 λlen=>
 bd (o6 (.agg [.i .i64 F,.i .i64 T])) λbc=>
 gI .i64 bc λx1=>
 bl (!decide ((len:Int)=x1)) (
 some [.b true]) (
 bd (vI (.agg [.list p1])) λbQ=>
 gB bQ λx2=>
 some [.b (!x2)]))) λvs=>
 gC vs λm2 n6=>
 gB m2 λx3=>
 gN n6<|
 bl x3 (
 some (.b false)) (
 bd (
 bq p1 λez=>
 idx p1 (eJ .i64 ((ez:Int)-1)) λy=>
 gA y λfF=>
 mA fF λBy View Value=>
 bd (sB (.agg [.i .i64 F,.i .i64 T])) λct=>
 gI .i64 ct λx4=>
 bl (decide (By<x4)) (
 idx p1 0 λy1=>
 gA y1 λqC=>
 mA qC λNK ek bN=>
 idx p1 0 λy2=>
 gA y2 λxH=>
 mA xH λBy2 Gp j6=>
 bq p1 λlB=>
 bd (vJ (.agg [.list p1]) (.i .i64 ek) (.s j6)) λgm=>
 gI .i64 gm λx5=>
 some [.b (decide (x5=(lB:Int)))]) (
 some [.b false])) λkl=>
 gC kl λDR lC=>
 gB DR λx6=>
 gN lC<|
 some (.b x6))
def Gs:GT:=bI 102 (iw pu) Gr
theorem G0:SG Gs:=Bw GZ [] [] 47 [] [] [] [(3,[0,1,2,3,4,5,6,7,8,9,10,11,12,13,14,15,16,17,18,19,20,22,23,21,24,25,26])] [(3,⟨[1,2],[],[],[(0,[(4,.sc (.k .b))])],[]⟩),(1,⟨[1,2],[],[],[(0,[(20,.sc (.k .b))])],[]⟩)] [] [] [] Tryz.func102 (by kernel_rfl) (bS (λ_ _=>by kernel_rfl))
def iH (a:MV):Option MV:=gA a λcs=>
 fI cs λSF ST Me View Has At Value Proof iy=>
 bd (
 bl (decide (View<0)) (
 some [.b true]) (
 some [.b (decide ((100000:Int)<View))])) λvs=>
 gC vs λm9 ui=>
 gB m9 λx=>
 gN ui<|
 bl x (
 some (.b false)) (
 bd (
 bl Has (
 bl (decide (At<0)) (
 some [.b true]) (
 bl (decide (View<At)) (
 some [.b true]) (
 some [.b (decide ((6000:Int)<(Value.length:Int)))]))) (
 some [.b false])) λkl=>
 gC kl λNF xh=>
 gB NF λx1=>
 gN xh<|
 bl x1 (
 some (.b false)) (
 bd (
 bl (!Has) (
 bl (!decide (At=0)) (
 some [.b true]) (
 some [.b (!decide (Value=([]:List UInt8)))])) (
 some [.b false])) λtV=>
 gC tV λKz xi=>
 gB Kz λx2=>
 gN xi<|
 bl x2 (
 some (.b false)) (
 bd (
 bq Proof λlen=>
 bl (decide ((len:Int)=0)) (
 some [.b true]) (
 bd (pu (.agg [.i .i64 SF,.i .i64 ST]) (.list Proof)) λrA=>
 gB rA λx3=>
 bl x3 (
 idx Proof 0 λy=>
 gA y λfF=>
 mA fF λBy ek bN=>
 some [.b (decide (ek<=View))]) (
 some [.b false]))) λYJ=>
 gC YJ λPF uj=>
 gB PF λx4=>
 gN uj<|
 some (.b x4))))
def qi:GT:=bI 130 (qY iH) Gs
theorem uo:SG qi:=Bw G0 [] [] 68 [] [] [] [(7,[0,1,2,3,4,5,6,7,8,9,10,11,12,13,14,15,16,17,18,19,20,21])] [(7,⟨[1],[],[],[(0,[(2,.sc (.k .b))])],[]⟩),(5,⟨[1],[],[],[(0,[(33,.sc (.k .b))])],[]⟩),(3,⟨[1],[],[],[(0,[(12,.sc (.k .b))])],[]⟩),(1,⟨[1],[],[],[(0,[(3,.sc (.k .b))])],[]⟩)] [] [] [] Tryz.func130 (by kernel_rfl) (eK (λ_=>by kernel_rfl))
def rE (a a1 a2:MV):Option MV:=gA a λcs=>
 Dd cs λF T=>
 gI .i64 a1 λmC=>
 gL a2 λYE=>
 bd (qf (.agg [.i .i64 F,.i .i64 T]) (.i .i64 mC)) λrA=>
 gT rA λvs=>
 gC vs λm2 n6=>
 gA m2 λfF=>
 fI fF λSF ST Me View Has At Value Proof iy=>
 gC n6 λDR lC=>
 gI .i64 DR λx=>
 gN lC<|
 bl (!decide (x=0)) (
 some (.ej [.agg (cK 0 0 0 0 false 0 ([]:List UInt8) ([]:List MV) ([]:List MV)),.i .i64 x])) (
 bd (dz [.list YE,.i .i64 0]) λbc=>
 gW bc λx1 ls=>
 Gj ls λb eA=>
 gI .i64 x1 λx2=>
 bd (dz [.list b,.i .i64 eA]) λbQ=>
 gW bQ λx3 ls1=>
 Gj ls1 λb1 eA1=>
 gI .i64 x3 λx4=>
 bd (dz [.list b1,.i .i64 eA1]) λct=>
 gW ct λx5 ls2=>
 Gj ls2 λb2 eA2=>
 gI .i64 x5 λx6=>
 bd (iC [.list b2,.i .i64 eA2]) λgm=>
 gW gm λx7 ls3=>
 Gj ls3 λb3 eA3=>
 gS x7 λx8=>
 bd (jQ [.list b3,.i .i64 eA3]) λlz=>
 gW lz λx9 ls4=>
 Gj ls4 λb4 eA4=>
 gL x9 λqE=>
 bd (
 bl (!decide (eA4=0)) (
 some [.b true]) (
 bd (ov (.b (decide (x4=1)))) λqK=>
 gI .i64 qK λrB=>
 bl (!decide (x4=rB)) (
 some [.b true]) (
 bq b4 λlen=>
 bl (decide ((0:Int)<(len:Int))) (
 some [.b true]) (
 bd (iH (.agg (cK SF ST Me x2 (decide (x4=1)) x6 x8 qE iy))) λzw=>
 gB zw λr8=>
 some [.b (!r8)])))) λkl=>
 gC kl λm23 PR=>
 gB m23 λr9=>
 gN PR<|
 bl r9 (
 some (.ej [.agg (cK 0 0 0 0 false 0 ([]:List UInt8) ([]:List MV) ([]:List MV)),.i .i64 3])) (
 some (.ej [.agg (cK SF ST Me x2 (decide (x4=1)) x6 x8 qE iy),.i .i64 0])))
def B2:GT:=bI 63 (Bv rE) qi
theorem D5:SG B2:=fnX uo [] [] 68 [] [] [] [] [(8,⟨[6,8,9,10,11,14],[],[],[(0,[(64,.sc (.k .b))])],[]⟩)] [] [] [] Tryz.func63 (by kernel_rfl) (mj (λ_ _ _=>by kernel_rfl))
def uq (p:MV):Option MV:=gL p λp1=>
 bq p1 λlen=>
 bl (decide ((len:Int)=0)) (
 some (.ej [.i .i64 (-1),.s ([]:List UInt8),.b false])) (
 idx p1 0 λy=>
 gA y λcs=>
 mA cs λBy View Value=>
 idx p1 0 λy1=>
 gA y1 λfF=>
 mA fF λNK ek bN=>
 some (.ej [.i .i64 View,.s bN,.b true]))
def PS:GT:=bI 99 (qY uq) B2
theorem NL:SG PS:=Bw D5 [] [] 16 [] [] [] [(3,[0,1,2,3,4,5,6,7,8,9,10])] [] [] [] [] Tryz.func99 (by kernel_rfl) (eK (λ_=>by kernel_rfl))
def yq (x:MV):Option MV:=gI .u64 x λx1=>
 bd (
 bl (decide ((4294967296:Int)<=x1)) (
 ca (decide ((0:Int)<=32))<|
 some (0,[.i .u64 (OF x1 (2^min (AI 32) (BY .u64))),.i .i64 32])) (
 some (0,[.i .u64 x1,.i .i64 0]))) λp=>
 ca (sh p.1 0)<|
 oII .u64 .i64 p.2 λx2 n=>
 bd (
 bl (decide ((65536:Int)<=x2)) (
 ca (decide ((0:Int)<=16))<|
 some (0,[.i .u64 (OF x2 (2^min (AI 16) (BY .u64))),.i .i64 (eJ .i64 (n+16))])) (
 some (0,[.i .u64 x2,.i .i64 n]))) λp1=>
 ca (sh p1.1 0)<|
 oII .u64 .i64 p1.2 λx3 n1=>
 bd (
 bl (decide ((256:Int)<=x3)) (
 ca (decide ((0:Int)<=8))<|
 some (0,[.i .u64 (OF x3 (2^min (AI 8) (BY .u64))),.i .i64 (eJ .i64 (n1+8))])) (
 some (0,[.i .u64 x3,.i .i64 n1]))) λp2=>
 ca (sh p2.1 0)<|
 oII .u64 .i64 p2.2 λx4 n2=>
 ca (decide ((0:Int)<=(eJ .u8 x4)/\(eJ .u8 x4)<(((([0,1,2,2,3,3,3,3,4,4,4,4,4,4,4,4,5,5,5,5,5,5,5,5,5,5,5,5,5,5,5,5,6,6,6,6,6,6,6,6,6,6,6,6,6,6,6,6,6,6,6,6,6,6,6,6,6,6,6,6,6,6,6,6]:List UInt8)++([7,7,7,7,7,7,7,7,7,7,7,7,7,7,7,7,7,7,7,7,7,7,7,7,7,7,7,7,7,7,7,7,7,7,7,7,7,7,7,7,7,7,7,7,7,7,7,7,7,7,7,7,7,7,7,7,7,7,7,7,7,7,7,7]:List UInt8))++(([8,8,8,8,8,8,8,8,8,8,8,8,8,8,8,8,8,8,8,8,8,8,8,8,8,8,8,8,8,8,8,8,8,8,8,8,8,8,8,8,8,8,8,8,8,8,8,8,8,8,8,8,8,8,8,8,8,8,8,8,8,8,8,8]:List UInt8)++([8,8,8,8,8,8,8,8,8,8,8,8,8,8,8,8,8,8,8,8,8,8,8,8,8,8,8,8,8,8,8,8,8,8,8,8,8,8,8,8,8,8,8,8,8,8,8,8,8,8,8,8,8,8,8,8,8,8,8,8,8,8,8,8]:List UInt8))).length:Int)))<|
 some (.i .i64 (eJ .i64 (n2+(eJ .i64 ((((([0,1,2,2,3,3,3,3,4,4,4,4,4,4,4,4,5,5,5,5,5,5,5,5,5,5,5,5,5,5,5,5,6,6,6,6,6,6,6,6,6,6,6,6,6,6,6,6,6,6,6,6,6,6,6,6,6,6,6,6,6,6,6,6]:List UInt8)++([7,7,7,7,7,7,7,7,7,7,7,7,7,7,7,7,7,7,7,7,7,7,7,7,7,7,7,7,7,7,7,7,7,7,7,7,7,7,7,7,7,7,7,7,7,7,7,7,7,7,7,7,7,7,7,7,7,7,7,7,7,7,7,7]:List UInt8))++(([8,8,8,8,8,8,8,8,8,8,8,8,8,8,8,8,8,8,8,8,8,8,8,8,8,8,8,8,8,8,8,8,8,8,8,8,8,8,8,8,8,8,8,8,8,8,8,8,8,8,8,8,8,8,8,8,8,8,8,8,8,8,8,8]:List UInt8)++([8,8,8,8,8,8,8,8,8,8,8,8,8,8,8,8,8,8,8,8,8,8,8,8,8,8,8,8,8,8,8,8,8,8,8,8,8,8,8,8,8,8,8,8,8,8,8,8,8,8,8,8,8,8,8,8,8,8,8,8,8,8,8,8]:List UInt8))).getD (AI (eJ .u8 x4)) 0).toNat:Int)))))
def I9:GT:=bI 191 (qY yq) PS
theorem Ja:SG I9:=qG NL [] 25 [] [(8,⟨[],[],[],[(0,[(0,.sc (.k (.i .u64))),(2,.sc (.k (.i .i64)))])],[]⟩),(5,⟨[],[],[],[(0,[(0,.sc (.k (.i .u64))),(2,.sc (.k (.i .i64)))])],[]⟩),(2,⟨[],[],[],[(0,[(0,.sc (.k (.i .u64))),(2,.sc (.k (.i .i64)))])],[]⟩)] [] Tryz.func191 (by kernel_rfl) (eK (λ_=>by kernel_rfl))
def yr (n:MV):Option MV:=gI .u64 n λn1=>
 bd (yq (.i .u64 n1)) λrA=>
 gI .i64 rA λx=>
 ca (!decide ((8:Int)=0))<|
 some (.i .i64 (eJ .i64 (1+(eJ .i64 (Int.tdiv (eJ .i64 (x+7)) 8)))))
def Jb:GT:=bI 186 (qY yr) I9
theorem Jc:SG Jb:=qG Ja [] 8 [] [] [] Tryz.func186 (by kernel_rfl) (eK (λ_=>by kernel_rfl))
def oQ (sA:MV):Option MV:=gL sA λzy=>
 bq zy λlen=>
 bq zy λez=>
 ca (decide ((len:Int)=(zy.length:Int)/\(ez:Int)=(zy.length:Int)))<|
 some (.clip zy)
def yX:GT:=bI 187 (qY oQ) Jb
theorem Bx:SG yX:=qG Jc [] 9 [] [] [] Tryz.func187 (by kernel_rfl) (eK (λ_=>by kernel_rfl))
def xl (b n:MV):Option MV:=gL b λb1=>
 gI .u64 n λn1=>
 bd (yr (.i .u64 n1)) λrA=>
 gI .i64 rA λx=>
 bd (oQ (.list b1)) λbc=>
 Da bc λxs=>
 ca (iG 1 xs)<|
 bq xs λlen=>
 bq ([.i .u8 (eJ .u8 (eJ .i64 (x-1)))]:List MV) λez=>
 ca (decide (0<ez/\(len+ez) *1<=2^46))<|
 bd (Loop (λuW=>
 Gj uW λout i=>
 bl (decide ((0:Int)<=i)) (
 ca (decide ((0:Int)<=(eJ .i64 (8 *i))))<|
 bq out λlB=>
 bq ([.i .u8 (eJ .u8 (OF n1 (2^min (AI (eJ .i64 (8 *i))) (BY .u64))))]:List MV) λxg=>
 ca (decide ((lB+xg) *1<=2^46))<|
 some (.inl [.list (out++([.i .u8 (eJ .u8 (OF n1 (2^min (AI (eJ .i64 (8 *i))) (BY .u64))))]:List MV)),.i .i64 (eJ .i64 (i-1))])) (
 some (.inr (2,[.list out])))) [.list (xs++([.i .u8 (eJ .u8 (eJ .i64 (x-1)))]:List MV)),.i .i64 (eJ .i64 ((eJ .i64 (x-1))-1))]) λp=>
 ca (sh p.1 2)<|
 gC p.2 λm2 CG=>
 gL m2 λaeY=>
 gN CG<|
 some (.fresh aeY)
def L4:GT:=bI 170 (iw xl) yX
theorem KH:SG L4:=fnF Bx 5 [] [] 32 [15,29] [] [] [] [] [] [(4,⟨[1],[],[(6,.sc (.own 16 5 false)),(7,.sc (.k (.i .i64)))],[(2,[(6,.sc (.own 16 5 false))])],[]⟩)] [] Tryz.func170 (by kernel_rfl) (by kernel_rfl) (bS (λ_ _=>by kernel_rfl))
def nG (b n:MV):Option MV:=gL b λb1=>
 gI .i64 n λn1=>
 ca (decide ((0:Int)<=1))<|
 ca (decide ((0:Int)<=63))<|
 bd (xl (.list b1) (.i .u64 (ET .u64 (eJ .u64 ((eJ .u64 n1) *2^min (AI 1) (BY .u64))) (eJ .u64 (OF n1 (2^min (AI 63) (BY .i64))))))) λrA=>
 gF rA λxs=>
 some (.fresh xs)
def L5:GT:=bI 131 (iw nG) L4
theorem KI:SG L5:=fnF KH 5 [] [] 14 [] [] [] [] [] [] [] [] Tryz.func131 (by kernel_rfl) (by kernel_rfl) (bS (λ_ _=>by kernel_rfl))
def ur (b sA:MV):Option MV:=gL b λb1=>
 gS sA λzy=>
 bd (xl (.list b1) (.i .u64 (eJ .u64 (zy.length:Int)))) λrA=>
 gF rA λxs=>
 bq xs λlen=>
 bq (OA zy) λez=>
 ca (decide ((len+ez) *1<=2^46))<|
 some (.fresh (xs++(OA zy)))
def Jd:GT:=bI 132 (iw ur) L5
theorem Je:SG Jd:=fnF KI 5 [] [] 12 [] [] [] [] [] [] [] [] Tryz.func132 (by kernel_rfl) (by kernel_rfl) (bS (λ_ _=>by kernel_rfl))
def rF (a:MV):Option MV:=gA a λcs=>
 fI cs λSF ST Me View Has At Value Proof iy=>
 bd (nG (.list ([]:List MV)) (.i .i64 View)) λrA=>
 gF rA λxs=>
 bd (ov (.b Has)) λbc=>
 gI .i64 bc λx=>
 bd (nG (.list xs) (.i .i64 x)) λbQ=>
 gF bQ λGX=>
 bd (nG (.list GX) (.i .i64 At)) λct=>
 gF ct λKF=>
 bq Proof λlen=>
 bd (ur (.list KF) (.s Value)) λgm=>
 gF gm λOv=>
 bd (nG (.list Ov) (.i .i64 (len:Int))) λlz=>
 gF lz λR5=>
 bq Proof λez=>
 bd (Loop (λui=>
 Gj ui λb x1=>
 bl (decide (x1<(ez:Int))) (
 idx Proof x1 λy=>
 gA y λfF=>
 mA fF λBy ek bN=>
 bd (nG (.list b) (.i .i64 By)) λqK=>
 gF qK λU9=>
 some (.inl [.list U9,.i .i64 (eJ .i64 (x1+1))])) (
 some (.inr (2,[.list b])))) [.list R5,.i .i64 0]) λp=>
 ca (sh p.1 2)<|
 gC p.2 λIQ uj=>
 gL IQ λb1=>
 gN uj<|
 bd (uq (.list Proof)) λzw=>
 gT zw λvs=>
 NG vs λx2 x3 x4=>
 bd (
 bl x4 (
 bd (nG (.list b1) (.i .i64 x2)) λTG=>
 gF TG λxs6=>
 bd (ur (.list xs6) (.s x3)) λYl=>
 gF Yl λxs7=>
 some (0,[.list xs7])) (
 some (0,[.list b1]))) λp1=>
 ca (sh p1.1 0)<|
 gC p1.2 λKB sb=>
 gL KB λb2=>
 gN sb<|
 some (.list b2)
def B3:GT:=bI 64 (qY rF) Jd
theorem D6:SG B3:=Bw Je [] [] 53 [] [] [] [(1,[0,1,3,4,7,8,2,5,6,9,10]),(2,[0,1,2,4,5,6,3,7,8])] [] [(10,⟨[6,7],[],[],[(0,[(3,.sc (.own 26 5 true))])],[11,15,18,22,26,37,49,51]⟩)] [(4,⟨[1,28,29],[],[(3,.sc (.own 26 5 true)),(30,.sc (.k (.i .i64)))],[(2,[(3,.sc (.own 26 5 true))])],[11,15,18,22,26,37,49,51]⟩)] [] Tryz.func64 (by kernel_rfl) (eK (λ_=>by kernel_rfl))
def s8 (sA i n:MV):Option MV:=gA sA λcs=>
 Dd cs λF T=>
 gI .i64 i λi1=>
 gA n λfF=>
 aQ fF λyR yS yT eg lD yU dE dF cG yV yW bG bH dG fm dH df jy=>
 bd (rF (.agg (cK yR yS yT eg lD yU dE dF cG))) λrA=>
 gL rA λx=>
 bd (rE (.agg [.i .i64 F,.i .i64 T]) (.i .i64 i1) (.list x)) λbc=>
 gT bc λvs=>
 gC vs λVa uk=>
 gA Va λqC=>
 fI qC λSF ST Me View Has At Value Proof iy=>
 gC uk λm30 D7=>
 gI .i64 m30 λx1=>
 gN D7<|
 bd (sa (.agg [.i .i64 F,.i .i64 T])) λbQ=>
 gT bQ λkl=>
 gC kl λm31 Jf=>
 gA m31 λxH=>
 fJ xH λwk wm fh fj pq cq bN=>
 gC Jf λm39 PN=>
 gI .i64 m39 λx2=>
 gN PN<|
 some (.agg (av SF ST Me View Has At Value Proof iy wk wm fh fj pq cq bN ([]:List MV) View))
def D8:GT:=bI 22 (Bv s8) B3
theorem Fp:SG D8:=Bw D6 [] [] 30 [] [] [] [(1,[0,1,2,3,4,5,6,7,8,9,10,11])] [] [] [] [] Tryz.func22 (by kernel_rfl) (mj (λ_ _ _=>by kernel_rfl))
def fR (c i bad:MV):Option MV:=gA c λcs=>
 cZ cs λSF ST cQ Want N bg=>
 gI .i64 i λi1=>
 gB bad λamU=>
 bd (
 bl (decide ((0:Int)<=i1)) (
 bq cQ λlen=>
 bl (decide (i1<(len:Int))) (
 idx cQ i1 λy=>
 gB y λx=>
 some [.b (decide (x=amU))]) (
 some [.b false])) (
 some [.b false])) λvs=>
 gC vs λm6 NI=>
 gB m6 λx1=>
 gN NI<|
 some (.b x1)
def Gt:GT:=bI 73 (Bv fR) D8
theorem G3:SG Gt:=qG Fp [] 25 [(1,⟨[1,2,3],[],[],[(0,[(6,.sc (.k .b))])],[]⟩)] [] [] Tryz.func73 (by kernel_rfl) (mj (λ_ _ _=>by kernel_rfl))
def jm (s1 s2:MV):Option MV:=gL s1 λuu=>
 gL s2 λAg=>
 bq uu λlen=>
 bq Ag λez=>
 bl (!decide ((len:Int)=(ez:Int))) (
 some (.b false)) (
 bq uu λlB=>
 bd (Loop (λuW=>
 gC uW λm qe=>
 gI .i64 m λx=>
 gN qe<|
 bl (decide (x<(lB:Int))) (
 idx uu x λy=>
 gA y λcs=>
 mA cs λBy View Value=>
 idx Ag x λy1=>
 gA y1 λfF=>
 mA fF λNK ek bN=>
 bl (!((decide (By=NK))&&((decide (View=ek))&&(decide (Value=bN))))) (
 some (.inr (1,[.b false]))) (
 some (.inl [.i .i64 (eJ .i64 (x+1))]))) (
 some (.inr (2,[])))) [.i .i64 0]) λp=>
 bl (sh p.1 2) (
 gN p.2<|
 some (.b true)) (
 ca (sh p.1 1)<|
 gC p.2 λm7 Ad=>
 gB m7 λx1=>
 gN Ad<|
 some (.b x1)))
def qL:GT:=bI 180 (iw jm) Gt
theorem uX:SG qL:=Bw G3 [] [] 26 [] [] [] [(6,[0,1,2,3,4,5,6,7,8])] [] [] [(4,⟨[0,1,12],[],[(13,.sc (.k (.i .i64)))],[(1,[(4,.sc (.k .b))]),(2,[])],[]⟩)] [] Tryz.func180 (by kernel_rfl) (bS (λ_ _=>by kernel_rfl))
def dA (a b:MV):Option MV:=gL a λa1=>
 gL b λb1=>
 bd (jm (.list a1) (.list b1)) λrA=>
 gB rA λx=>
 some (.b x)
def Jg:GT:=bI 152 (iw dA) qL
theorem Jh:SG Jg:=qG uX [] 8 [] [] [] Tryz.func152 (by kernel_rfl) (bS (λ_ _=>by kernel_rfl))
def rG (x y:MV):Option MV:=gA x λcs=>
 il cs λBy jo Has View Value Proof=>
 gA y λfF=>
 il fF λNK Vb Bz ek bN eR=>
 bd (
 bl (decide (By=NK)) (
 bl (decide (jo=Vb)) (
 bl (decide (Has=Bz)) (
 bl (decide (View=ek)) (
 bl (decide (Value=bN)) (
 bd (dA (.list Proof) (.list eR)) λrA=>
 gB rA λx1=>
 some [.b x1]) (
 some [.b false])) (
 some [.b false])) (
 some [.b false])) (
 some [.b false])) (
 some [.b false])) λvs=>
 gC vs λDR lC=>
 gB DR λx2=>
 gN lC<|
 some (.b x2)
def wu:GT:=bI 176 (iw rG) Jg
theorem D9:SG wu:=qG Jh [] 45 [(1,⟨[2,3],[],[],[(0,[(4,.sc (.k .b))])],[]⟩)] [] [] Tryz.func176 (by kernel_rfl) (bS (λ_ _=>by kernel_rfl))
def cW:GT:=wu
theorem gG (x0 x1:MV):cW 176 [x0,x1]=rG x0 x1:=by kernel_rfl
def cw (s1 s2 eq:MV):Option MV:=gL s1 λuu=>
 gL s2 λAg=>
 gR eq λeq1=>
 bq uu λlen=>
 bq Ag λez=>
 bl (!decide ((len:Int)=(ez:Int))) (
 some (.b false)) (
 bq uu λlB=>
 bd (Loop (λuW=>
 gC uW λm qe=>
 gI .i64 m λx=>
 gN qe<|
 bl (decide (x<(lB:Int))) (
 idx uu x λy=>
 gA y λcs=>
 il cs λBy jo Has View Value Proof=>
 idx Ag x λy1=>
 gA y1 λfF=>
 il fF λNK Vb Bz ek bN eR=>
 QJ eq1 λfn cap=>
 ca (!gv fn)<|
 bd (cW fn ([.agg (bt By jo Has View Value Proof),.agg (bt NK Vb Bz ek bN eR)]++cap)) λrA=>
 gB rA λx1=>
 bl (!x1) (
 some (.inr (1,[.b false]))) (
 some (.inl [.i .i64 (eJ .i64 (x+1))]))) (
 some (.inr (2,[])))) [.i .i64 0]) λp=>
 bl (sh p.1 2) (
 gN p.2<|
 some (.b true)) (
 ca (sh p.1 1)<|
 gC p.2 λKA xj=>
 gB KA λx2=>
 gN xj<|
 some (.b x2)))
def fp:GT:=bI 175 (Bv cw) wu
theorem jt:SG fp:=qG D9 [] 32 [] [] [(4,⟨[1,2,15,16],[],[(17,.sc (.k (.i .i64)))],[(1,[(6,.sc (.k .b))]),(2,[])],[]⟩)] Tryz.func175 (by kernel_rfl) (mj (λ_ _ _=>by kernel_rfl))
def eh (a b:MV):Option MV:=gL a λa1=>
 gL b λb1=>
 bd (cw (.list a1) (.list b1) (.func 176 [])) λrA=>
 gB rA λx=>
 some (.b x)
def Gu:GT:=bI 144 (iw eh) fp
theorem G4:SG Gu:=qG jt [] 8 [] [] [] Tryz.func144 (by kernel_rfl) (bS (λ_ _=>by kernel_rfl))
def kn (m c:MV):Option MV:=gA m λcs=>
 ch cs λKind eQ View Value dP eI dc cA Proof uR ju jv eB cO cM=>
 gP c λfF=>
 il fF λBy jo Has ek bN eR=>
 bd (
 bl (decide (Kind=4)) (
 bd (eh (.list ([.agg (bt uR ju jv eB cO cM)]:List MV)) (.list ([.agg (bt By jo Has ek bN eR)]:List MV))) λrA=>
 gB rA λx=>
 some [.b x]) (
 some [.b false])) λvs=>
 gC vs λm22 DW=>
 gB m22 λx1=>
 gN DW<|
 some (.b x1)
def sM:GT:=bI 143 (iw kn) Gu
theorem xm:SG sM:=Bw G4 [[.i .i64,.i .i64,.b,.i .i64,.s,.l]] [] 15 [10,12] [] [] [] [(1,⟨[1,2],[],[],[(0,[(3,.sc (.k .b))])],[]⟩)] [] [] [] Tryz.func143 (by kernel_rfl) (bS (λ_ _=>by kernel_rfl))
def ml (m c:MV):Option MV:=gA m λcs=>
 ch cs λKind eQ View Value dP eI dc cA Proof uR ju jv eB cO cM=>
 gP c λfF=>
 mA fF λBy ek bN=>
 bd (
 bl (decide (Kind=2)) (
 some [.b ((decide (eI=By))&&((decide (dc=ek))&&(decide (cA=bN))))]) (
 some [.b false])) λvs=>
 gC vs λU4 na=>
 gB U4 λx=>
 gN na<|
 some (.b x)
def qj:GT:=bI 179 (iw ml) sM
theorem zi:SG qj:=qG xm [[.i .i64,.i .i64,.s]] 13 [(1,⟨[1,2],[],[],[(0,[(3,.sc (.k .b))])],[]⟩)] [] [] Tryz.func179 (by kernel_rfl) (bS (λ_ _=>by kernel_rfl))
def eC:GT:=qj
theorem fK (x0 x1:MV):eC 143 [x0,x1]=kn x0 x1:=by kernel_rfl
theorem ma (x0 x1:MV):eC 179 [x0,x1]=ml x0 x1:=by kernel_rfl
def iq (sA f:MV):Option MV:=gL sA λzy=>
 gR f λf1=>
 bq zy λlen=>
 bd (Loop (λuW=>
 gC uW λm qe=>
 gI .i64 m λx=>
 gN qe<|
 bl (decide (x<(len:Int))) (
 idx zy x λy=>
 gA y λcs=>
 ch cs λKind eQ View Value dP eI dc cA Proof uR ju jv eB cO cM=>
 QJ f1 λfn cap=>
 ca (!gv fn)<|
 bd (eC fn ([.agg (aE Kind eQ View Value dP eI dc cA Proof uR ju jv eB cO cM)]++cap)) λrA=>
 gB rA λx1=>
 bl x1 (
 some (.inr (1,[.i .i64 x]))) (
 some (.inl [.i .i64 (eJ .i64 (x+1))]))) (
 some (.inr (2,[])))) [.i .i64 0]) λp=>
 bl (sh p.1 2) (
 gN p.2<|
 some (.i .i64 (-1))) (
 ca (sh p.1 1)<|
 gC p.2 λUZ se=>
 gI .i64 UZ λx2=>
 gN se<|
 some (.i .i64 x2))
def pv:GT:=bI 177 (iw iq) qj
theorem s9:SG pv:=qG zi [] 19 [] [] [(2,⟨[0,1,7],[],[(8,.sc (.k (.i .i64)))],[(1,[(4,.sc (.k (.i .i64)))]),(2,[])],[]⟩)] Tryz.func177 (by kernel_rfl) (bS (λ_ _=>by kernel_rfl))
def dk (sA f:MV):Option MV:=gL sA λzy=>
 gR f λf1=>
 bd (iq (.list zy) f1) λrA=>
 gI .i64 rA λx=>
 some (.b (decide ((0:Int)<=x)))
def nb:GT:=bI 145 (iw dk) pv
theorem rb:SG nb:=qG s9 [] 9 [] [] [] Tryz.func145 (by kernel_rfl) (bS (λ_ _=>by kernel_rfl))
def oR (c a:MV):Option MV:=gA c λcs=>
 cZ cs λSF ST cQ Want N bg=>
 gA a λfF=>
 mA fF λBy View Value=>
 bd (
 bd (fR (.agg (ba SF ST cQ Want N bg)) (.i .i64 By) (.b true)) λrA=>
 gB rA λx=>
 bl x (
 some [.b true]) (
 bd (dk (.list bg) (.func 179 [.rp [.i .i64 By,.i .i64 View,.s Value]])) λbc=>
 gB bc λx1=>
 some [.b x1])) λvs=>
 gC vs λm9 ui=>
 gB m9 λx2=>
 gN ui<|
 some (.b x2)
def yY:GT:=bI 148 (iw oR) nb
theorem BA:SG yY:=qG rb [] 17 [(2,⟨[2,3,5],[],[],[(0,[(4,.sc (.k .b))])],[]⟩)] [] [] Tryz.func148 (by kernel_rfl) (bS (λ_ _=>by kernel_rfl))
def ko (a c:MV):Option MV:=gA a λcs=>
 mA cs λBy View Value=>
 gP c λfF=>
 cZ fF λSF ST cQ Want N bg=>
 bd (oR (.agg (ba SF ST cQ Want N bg)) (.agg [.i .i64 By,.i .i64 View,.s Value])) λrA=>
 gB rA λx=>
 some (.b (!x))
def n7:GT:=bI 147 (iw ko) yY
theorem xn:SG n7:=qG BA [[.i .i64,.i .i64,.l,.l,.l,.l]] 8 [] [] [] Tryz.func147 (by kernel_rfl) (bS (λ_ _=>by kernel_rfl))
def fA:GT:=n7
theorem kH (x0 x1:MV):fA 147 [x0,x1]=ko x0 x1:=by kernel_rfl
def fX (sA f:MV):Option MV:=gL sA λzy=>
 gR f λf1=>
 bq zy λlen=>
 bd (Loop (λuW=>
 gC uW λm qe=>
 gI .i64 m λx=>
 gN qe<|
 bl (decide (x<(len:Int))) (
 idx zy x λy=>
 gA y λcs=>
 mA cs λBy View Value=>
 QJ f1 λfn cap=>
 ca (!gv fn)<|
 bd (fA fn ([.agg [.i .i64 By,.i .i64 View,.s Value]]++cap)) λrA=>
 gB rA λx1=>
 bl x1 (
 some (.inr (1,[.i .i64 x]))) (
 some (.inl [.i .i64 (eJ .i64 (x+1))]))) (
 some (.inr (2,[])))) [.i .i64 0]) λp=>
 bl (sh p.1 2) (
 gN p.2<|
 some (.i .i64 (-1))) (
 ca (sh p.1 1)<|
 gC p.2 λm4 Fk=>
 gI .i64 m4 λx2=>
 gN Fk<|
 some (.i .i64 x2))
def nS:GT:=bI 178 (iw fX) n7
theorem sf:SG nS:=qG xn [] 19 [] [] [(2,⟨[0,1,7],[],[(8,.sc (.k (.i .i64)))],[(1,[(4,.sc (.k (.i .i64)))]),(2,[])],[]⟩)] Tryz.func178 (by kernel_rfl) (bS (λ_ _=>by kernel_rfl))
def eM (sA f:MV):Option MV:=gL sA λzy=>
 gR f λf1=>
 bd (fX (.list zy) f1) λrA=>
 gI .i64 rA λx=>
 some (.b (decide ((0:Int)<=x)))
def lF:GT:=bI 146 (iw eM) nS
theorem qk:SG lF:=qG sf [] 9 [] [] [] Tryz.func146 (by kernel_rfl) (bS (λ_ _=>by kernel_rfl))
def ir (c lA:MV):Option MV:=gA c λcs=>
 cZ cs λSF ST cQ Want N bg=>
 gL lA λL6=>
 bd (eM (.list L6) (.func 147 [.rp (ba SF ST cQ Want N bg)])) λrA=>
 gB rA λx=>
 some (.b (!x))
def vK:GT:=bI 81 (iw ir) lF
theorem zj:SG vK:=qG qk [] 9 [] [] [] Tryz.func81 (by kernel_rfl) (bS (λ_ _=>by kernel_rfl))
def mn (c rA:MV):Option MV:=gA c λcs=>
 cZ cs λSF ST cQ Want N bg=>
 gA rA λfF=>
 il fF λBy jo Has View Value Proof=>
 bd (
 bd (fR (.agg (ba SF ST cQ Want N bg)) (.i .i64 By) (.b true)) λbc=>
 gB bc λx=>
 bl x (
 bd (ir (.agg (ba SF ST cQ Want N bg)) (.list Proof)) λbQ=>
 gB bQ λx1=>
 bl x1 (
 some [.b true]) (
 bd (dk (.list bg) (.func 143 [.rp (bt By jo Has View Value Proof)])) λct=>
 gB ct λx2=>
 some [.b x2])) (
 bd (dk (.list bg) (.func 143 [.rp (bt By jo Has View Value Proof)])) λgm=>
 gB gm λx3=>
 some [.b x3])) λvs=>
 gC vs λDR lC=>
 gB DR λx4=>
 gN lC<|
 some (.b x4)
def vL:GT:=bI 80 (iw mn) vK
theorem zk:SG vL:=qG zj [] 23 [(2,⟨[2,3,5],[],[],[(0,[(4,.sc (.k .b))])],[]⟩)] [] [] Tryz.func80 (by kernel_rfl) (bS (λ_ _=>by kernel_rfl))
def ta (rA c:MV):Option MV:=gA rA λcs=>
 il cs λBy jo Has View Value Proof=>
 gP c λfF=>
 cZ fF λSF ST cQ Want N bg=>
 bd (mn (.agg (ba SF ST cQ Want N bg)) (.agg (bt By jo Has View Value Proof))) λbc=>
 gB bc λx=>
 some (.b (!x))
def yt:GT:=bI 79 (iw ta) vL
theorem Fq:SG yt:=qG zk [[.i .i64,.i .i64,.l,.l,.l,.l]] 8 [] [] [] Tryz.func79 (by kernel_rfl) (bS (λ_ _=>by kernel_rfl))
def fB:GT:=yt
theorem nH (x0 x1:MV):fB 79 [x0,x1]=ta x0 x1:=by kernel_rfl
def fY (sA f:MV):Option MV:=gL sA λzy=>
 gR f λf1=>
 bq zy λlen=>
 bd (Loop (λuW=>
 gC uW λm qe=>
 gI .i64 m λx=>
 gN qe<|
 bl (decide (x<(len:Int))) (
 idx zy x λy=>
 gA y λcs=>
 il cs λBy jo Has View Value Proof=>
 QJ f1 λfn cap=>
 ca (!gv fn)<|
 bd (fB fn ([.agg (bt By jo Has View Value Proof)]++cap)) λrA=>
 gB rA λx1=>
 bl x1 (
 some (.inr (1,[.i .i64 x]))) (
 some (.inl [.i .i64 (eJ .i64 (x+1))]))) (
 some (.inr (2,[])))) [.i .i64 0]) λp=>
 bl (sh p.1 2) (
 gN p.2<|
 some (.i .i64 (-1))) (
 ca (sh p.1 1)<|
 gC p.2 λm7 Ad=>
 gI .i64 m7 λx2=>
 gN Ad<|
 some (.i .i64 x2))
def nT:GT:=bI 142 (iw fY) yt
theorem si:SG nT:=qG Fq [] 19 [] [] [(2,⟨[0,1,7],[],[(8,.sc (.k (.i .i64)))],[(1,[(4,.sc (.k (.i .i64)))]),(2,[])],[]⟩)] Tryz.func142 (by kernel_rfl) (bS (λ_ _=>by kernel_rfl))
def eN (sA f:MV):Option MV:=gL sA λzy=>
 gR f λf1=>
 bd (fY (.list zy) f1) λrA=>
 gI .i64 rA λx=>
 some (.b (decide ((0:Int)<=x)))
def lG:GT:=bI 78 (iw eN) nT
theorem ql:SG lG:=qG si [] 9 [] [] [] Tryz.func78 (by kernel_rfl) (bS (λ_ _=>by kernel_rfl))
def uv (c m:MV):Option MV:=gA c λcs=>
 cZ cs λSF ST cQ Want N bg=>
 gA m λfF=>
 ch fF λKind eQ View Value dP eI dc cA Proof uR ju jv eB cO cM=>
 bl (decide (Kind=1)) (
 bd (
 bd (fR (.agg (ba SF ST cQ Want N bg)) (.i .i64 eQ) (.b true)) λrA=>
 gB rA λx=>
 bl x (
 bd (eN (.list dP) (.func 79 [.rp (ba SF ST cQ Want N bg)])) λbc=>
 gB bc λx1=>
 some [.b (!x1)]) (
 some [.b false])) λvs=>
 gC vs λm22 DW=>
 gB m22 λx2=>
 gN DW<|
 some (.b x2)) (
 bl (decide (Kind=2)) (
 bd (fR (.agg (ba SF ST cQ Want N bg)) (.i .i64 eI) (.b true)) λbQ=>
 gB bQ λx3=>
 some (.b x3)) (
 bl (decide (Kind=3)) (
 bd (
 bd (fR (.agg (ba SF ST cQ Want N bg)) (.i .i64 eQ) (.b true)) λct=>
 gB ct λx4=>
 bl x4 (
 bd (ir (.agg (ba SF ST cQ Want N bg)) (.list Proof)) λgm=>
 gB gm λx5=>
 some [.b x5]) (
 some [.b false])) λkl=>
 gC kl λm23 YK=>
 gB m23 λx6=>
 gN YK<|
 some (.b x6)) (
 bl (decide (Kind=4)) (
 bd (
 bd (fR (.agg (ba SF ST cQ Want N bg)) (.i .i64 uR) (.b true)) λlz=>
 gB lz λx7=>
 bl x7 (
 bd (ir (.agg (ba SF ST cQ Want N bg)) (.list cM)) λqK=>
 gB qK λx8=>
 some [.b x8]) (
 some [.b false])) λtV=>
 gC tV λm24 PR=>
 gB m24 λx9=>
 gN PR<|
 some (.b x9)) (
 bl (decide (Kind=5)) (
 bd (fR (.agg (ba SF ST cQ Want N bg)) (.i .i64 eQ) (.b true)) λzw=>
 gB zw λqE=>
 some (.b qE)) (
 some (.b false))))))
def Ji:GT:=bI 31 (iw uv) lG
theorem Jj:SG Ji:=Bw ql [] [] 59 [] [] [(1,[2])] [] [(3,⟨[2,3],[],[],[(0,[(4,.sc (.k .b))])],[]⟩),(7,⟨[2,3],[],[],[(0,[(4,.sc (.k .b))])],[]⟩),(9,⟨[2,3],[],[],[(0,[(4,.sc (.k .b))])],[]⟩)] [] [] [] Tryz.func31 (by kernel_rfl) (bS (λ_ _=>by kernel_rfl))
def eT (sA:MV):Option MV:=gL sA λzy=>
 bq zy λlen=>
 bq zy λez=>
 ca (decide ((len:Int)=(zy.length:Int)/\(ez:Int)=(zy.length:Int)))<|
 some (.clip zy)
def uw:GT:=bI 140 (qY eT) Ji
theorem yu:SG uw:=qG Jj [] 9 [] [] [] Tryz.func140 (by kernel_rfl) (eK (λ_=>by kernel_rfl))
def pw (sA view:MV):Option MV:=gA sA λcs=>
 Dd cs λF T=>
 gI .i64 view λlE=>
 bd (sB (.agg [.i .i64 F,.i .i64 T])) λrA=>
 gI .i64 rA λx=>
 ca (!decide (x=0))<|
 some (.i .i64 (Int.tmod (imax lE 0) x))
def Gv:GT:=bI 42 (iw pw) uw
theorem G5:SG Gv:=qG yu [] 10 [] [] [] Tryz.func42 (by kernel_rfl) (bS (λ_ _=>by kernel_rfl))
def ox (rA:MV):Option MV:=gA rA λcs=>
 il cs λBy jo Has View Value Proof=>
 bd (uq (.list Proof)) λbc=>
 gT bc λvs=>
 NG vs λx x1 x2=>
 bl (!x2) (
 some (.i .i64 (-1))) (
 some (.i .i64 x))
def B4:GT:=bI 123 (qY ox) Gv
theorem Ea:SG B4:=qG G5 [] 16 [] [] [] Tryz.func123 (by kernel_rfl) (eK (λ_=>by kernel_rfl))
def yv (sA:MV):Option MV:=gA sA λcs=>
 Dd cs λF T=>
 bd (jP (.agg [.i .i64 F,.i .i64 T]) (.raw (.complex .f64 4607182418800017408 4607182418800017408))) λrA=>
 gI .i64 rA λx=>
 some (.i .i64 x)
def Jk:GT:=bI 124 (qY yv) B4
theorem Jl:SG Jk:=qG Ea [] 5 [] [] [] Tryz.func124 (by kernel_rfl) (eK (λ_=>by kernel_rfl))
def qm (a a1:MV):Option MV:=gA a λcs=>
 Dd cs λF T=>
 gL a1 λmC=>
 bq mC λlen=>
 bd (Loop (λn6=>
 gC n6 λm2 CG=>
 gI .i64 m2 λx=>
 gC CG λm3 CH=>
 gS m3 λx1=>
 gC CH λm4 Fk=>
 gI .i64 m4 λx2=>
 gN Fk<|
 bl (decide (x2<(len:Int))) (
 idx mC x2 λy=>
 gA y λfF=>
 il fF λBy jo Has View Value Proof=>
 bd (ox (.agg (bt By jo Has View Value Proof))) λrA=>
 gI .i64 rA λx3=>
 bd (
 bl (decide (x<x3)) (
 idx Proof 0 λy1=>
 gA y1 λqC=>
 mA qC λNK ek bN=>
 some (0,[.i .i64 x3,.s bN])) (
 some (0,[.i .i64 x,.s x1]))) λp1=>
 ca (sh p1.1 0)<|
 gC p1.2 λIQ uj=>
 gI .i64 IQ λx4=>
 gC uj λPF Jm=>
 gS PF λx5=>
 gN Jm<|
 some (.inl [.i .i64 x4,.s x5,.i .i64 (eJ .i64 (x2+1))])) (
 some (.inr (2,[.i .i64 x,.s x1])))) [.i .i64 (-1),.s ([]:List UInt8),.i .i64 0]) λp=>
 ca (sh p.1 2)<|
 gC p.2 λUZ se=>
 gI .i64 UZ λx6=>
 gC se λFj na=>
 gS Fj λx7=>
 gN na<|
 bq mC λez=>
 bd (Loop (λsb=>
 Gj sb λes x8=>
 bl (decide (x8<(ez:Int))) (
 idx mC x8 λy2=>
 gA y2 λxH=>
 il xH λBy2 Vb Bz Gp j6 eR=>
 bd (
 bl Bz (
 some [.b (decide (x6<Gp))]) (
 some [.b false])) λvs=>
 gC vs λm26 IX=>
 gB m26 λx9=>
 gN IX<|
 bd (
 bl x9 (
 some (0,[.list (tM (nY es ([.s j6]:List MV) (.i .i64 0)) (cI es ([.s j6]:List MV)) (.i .i64 (eJ .i64 ((n8 es ([.s j6]:List MV))+1))))])) (
 some (0,[.list es]))) λp3=>
 ca (sh p3.1 0)<|
 gC p3.2 λm27 PL=>
 gL m27 λes1=>
 gN PL<|
 some (.inl [.list es1,.i .i64 (eJ .i64 (x8+1))])) (
 some (.inr (4,[.list es])))) [.list ([]:List MV),.i .i64 0]) λp2=>
 ca (sh p2.1 4)<|
 gC p2.2 λm28 D7=>
 gL m28 λes2=>
 gN D7<|
 bd (tZ (λm29=>Px m29 λkey n=>
 bd (yv (.agg [.i .i64 F,.i .i64 T])) λbc=>
 gI .i64 bc λqE=>
 bl (decide (qE<=n)) (
 some (.inr (1,[.s key,.b true]))) (
 some (.inl ()))) (
 some (6,[])) es2) λp4=>
 bl (sh p4.1 6) (
 gN p4.2<|
 some (.ej [.s x7,.b (decide (((-1):Int)<x6))])) (
 ca (sh p4.1 1)<|
 gC p4.2 λm30 Jf=>
 gS m30 λrB=>
 gC Jf λm31 PT=>
 gB m31 λr8=>
 gN PT<|
 some (.ej [.s rB,.b r8]))
def Eb:GT:=bI 60 (iw qm) Jk
theorem Fs:SG Eb:=fnX Jl [] [] 70 [] [] [] [(7,[0,1,2,3,4,5,6,7])] [(13,⟨[2,6,7,11,13,35,36,37],[],[],[(0,[(48,.sc (.k .b))])],[]⟩)] [(14,⟨[2,6,7,13,35,36,37],[],[],[(0,[(11,.mp ⟨false,[.s],false⟩)])],[]⟩),(7,⟨[1,2,9,10,16,17,18],[],[],[(0,[(6,.sc (.k (.i .i64))),(7,.sc (.k .s))])],[]⟩)] [(17,⟨[2,6,7,11,56],[],[],[(1,[(4,.sc (.k .s)),(5,.sc (.k .b))]),(6,[])],[]⟩),(11,⟨[2,6,7,35,36],[],[(11,.mp ⟨false,[.s],false⟩),(37,.sc (.k (.i .i64)))],[(4,[(11,.mp ⟨false,[.s],false⟩)])],[]⟩),(3,⟨[1,2,16,17],[],[(6,.sc (.k (.i .i64))),(7,.sc (.k .s)),(18,.sc (.k (.i .i64)))],[(2,[(6,.sc (.k (.i .i64))),(7,.sc (.k .s))])],[]⟩)] [] Tryz.func60 (by kernel_rfl) (bS (λ_ _=>by kernel_rfl))
def xp (sA:MV):Option MV:=gA sA λcs=>
 Dd cs λF T=>
 bd (jP (.agg [.i .i64 F,.i .i64 T]) (.raw (.complex .f64 4611686018427387904 4611686018427387904))) λrA=>
 gI .i64 rA λx=>
 some (.i .i64 x)
def L7:GT:=bI 58 (qY xp) Eb
theorem KJ:SG L7:=qG Fs [] 5 [] [] [] Tryz.func58 (by kernel_rfl) (eK (λ_=>by kernel_rfl))
def ux (a a1:MV):Option MV:=gA a λcs=>
 Dd cs λF T=>
 gA a1 λfF=>
 il fF λBy jo Has View Value Proof=>
 bd (
 bd (lg (.agg [.i .i64 F,.i .i64 T])) λrA=>
 gB rA λx=>
 bl (!x) (
 some [.b true]) (
 bl (decide (By<0)) (
 some [.b true]) (
 bd (sB (.agg [.i .i64 F,.i .i64 T])) λbc=>
 gI .i64 bc λx1=>
 bl (decide (x1<=By)) (
 some [.b true]) (
 bl (decide (jo<1)) (
 some [.b true]) (
 some [.b (decide ((100000:Int)<jo))]))))) λvs=>
 gC vs λm8 Ad=>
 gB m8 λx2=>
 gN Ad<|
 bl x2 (
 some (.b false)) (
 bd (
 bl (!Has) (
 bl (!decide (View=0)) (
 some [.b true]) (
 some [.b (!decide (Value=([]:List UInt8)))])) (
 some [.b false])) λkl=>
 gC kl λm9 ui=>
 gB m9 λx3=>
 gN ui<|
 bl x3 (
 some (.b false)) (
 bd (
 bl Has (
 bl (decide (View<0)) (
 some [.b true]) (
 bl (decide (jo<=View)) (
 some [.b true]) (
 some [.b (decide ((6000:Int)<(Value.length:Int)))]))) (
 some [.b false])) λtV=>
 gC tV λNF xh=>
 gB NF λx4=>
 gN xh<|
 bl x4 (
 some (.b false)) (
 bd (
 bq Proof λlen=>
 bl (decide ((len:Int)=0)) (
 some [.b true]) (
 bd (pu (.agg [.i .i64 F,.i .i64 T]) (.list Proof)) λbQ=>
 gB bQ λx5=>
 bl x5 (
 bd (ox (.agg (bt By jo Has View Value Proof))) λct=>
 gI .i64 ct λx6=>
 some [.b (decide (x6<jo))]) (
 some [.b false]))) λYJ=>
 gC YJ λKz xi=>
 gB Kz λx7=>
 gN xi<|
 some (.b x7))))
def Jn:GT:=bI 107 (iw ux) L7
theorem Jo:SG Jn:=Bw KJ [] [] 83 [] [] [] [(1,[0,1,2,3,4,5,6,7,8,9,10,11,12,13,14,15,16,17,18,19,20,21,22,23,24,25]),(7,[0,1,2,3,4,5,6,7,8,9,10,12,13,11,14,15,16,17])] [(7,⟨[2,3],[],[],[(0,[(4,.sc (.k .b))])],[]⟩),(5,⟨[2,3],[],[],[(0,[(45,.sc (.k .b))])],[]⟩),(3,⟨[2,3],[],[],[(0,[(31,.sc (.k .b))])],[]⟩),(1,⟨[2,3],[],[],[(0,[(5,.sc (.k .b))])],[]⟩)] [] [] [] Tryz.func107 (by kernel_rfl) (bS (λ_ _=>by kernel_rfl))
def tc (sA view lA:MV):Option MV:=gA sA λcs=>
 Dd cs λF T=>
 gI .i64 view λlE=>
 gL lA λL6=>
 bd (
 bd (lg (.agg [.i .i64 F,.i .i64 T])) λrA=>
 gB rA λx=>
 bl (!x) (
 some [.b true]) (
 bq L6 λlen=>
 bd (xp (.agg [.i .i64 F,.i .i64 T])) λbc=>
 gI .i64 bc λx1=>
 some [.b (!decide ((len:Int)=x1))])) λvs=>
 gC vs λm2 n6=>
 gB m2 λx2=>
 gN n6<|
 bl x2 (
 some (.b false)) (
 bq L6 λez=>
 bd (Loop (λCG=>
 Dd CG λlast x3=>
 bl (decide (x3<(ez:Int))) (
 idx L6 x3 λy=>
 gA y λfF=>
 il fF λBy jo Has View Value Proof=>
 bd (
 bd (ux (.agg [.i .i64 F,.i .i64 T]) (.agg (bt By jo Has View Value Proof))) λbQ=>
 gB bQ λx4=>
 bl (!x4) (
 some [.b true]) (
 bl (!decide (jo=lE)) (
 some [.b true]) (
 some [.b (decide (By<=last))]))) λkl=>
 gC kl λKz lC=>
 gB Kz λx5=>
 gN lC<|
 bl x5 (
 some (.inr (1,[.b false]))) (
 some (.inl [.i .i64 By,.i .i64 (eJ .i64 (x3+1))]))) (
 some (.inr (2,[])))) [.i .i64 (-1),.i .i64 0]) λp=>
 bl (sh p.1 2) (
 gN p.2<|
 some (.b true)) (
 ca (sh p.1 1)<|
 gC p.2 λDR uh=>
 gB DR λx6=>
 gN uh<|
 some (.b x6)))
def Ec:GT:=bI 153 (Bv tc) Jn
theorem Ft:SG Ec:=qG Jo [] 45 [(7,⟨[1,3,7,9,20,21,22],[],[],[(0,[(41,.sc (.k .b))])],[]⟩),(1,⟨[1,2,3],[],[],[(0,[(19,.sc (.k .b))])],[]⟩)] [] [(5,⟨[1,3,20,21],[],[(7,.sc (.k (.i .i64))),(22,.sc (.k (.i .i64)))],[(1,[(6,.sc (.k .b))]),(2,[])],[]⟩)] Tryz.func153 (by kernel_rfl) (mj (λ_ _ _=>by kernel_rfl))
def qn (sA view lA value:MV):Option MV:=gA sA λcs=>
 Dd cs λF T=>
 gI .i64 view λlE=>
 gL lA λL6=>
 gS value λra=>
 bd (tc (.agg [.i .i64 F,.i .i64 T]) (.i .i64 lE) (.list L6)) λrA=>
 gB rA λx=>
 bl (!x) (
 some (.b false)) (
 bd (qm (.agg [.i .i64 F,.i .i64 T]) (.list L6)) λbc=>
 gT bc λvs=>
 gC vs λm2 n6=>
 gS m2 λx1=>
 gC n6 λm3 CG=>
 gB m3 λx2=>
 gN CG<|
 bd (
 bl (!x2) (
 some [.b true]) (
 some [.b (decide (x1=ra))])) λkl=>
 gC kl λm4 CH=>
 gB m4 λx3=>
 gN CH<|
 some (.b x3))
def Ah:GT:=bI 96 (RY qn) Ec
theorem CN:SG Ah:=qG Ft [] 29 [(4,⟨[3,9,10],[],[],[(0,[(8,.sc (.k .b))])],[]⟩)] [] [] Tryz.func96 (by kernel_rfl) (DL (λ_ _ _ _=>by kernel_rfl))
def nI (a view value kZ:MV):Option MV:=gA a λcs=>
 fI cs λSF ST Me View Has At Value Proof iy=>
 gI .i64 view λlE=>
 gS value λra=>
 gL kZ λacV=>
 bd (
 bl (!decide (lE=View)) (
 some [.b true]) (
 bl Has (
 bl (decide (At=lE)) (
 some [.b true]) (
 some [.b (decide ((6000:Int)<(ra.length:Int)))])) (
 some [.b (decide ((6000:Int)<(ra.length:Int)))]))) λvs=>
 gC vs λm9 ui=>
 gB m9 λx=>
 gN ui<|
 bl x (
 some (.ej [.agg (cK SF ST Me View Has At Value Proof iy),.agg [.i .i64 0,.i .i64 0,.s ([]:List UInt8)],.b false])) (
 bd (
 bl (decide (lE=0)) (
 bq acV λlen=>
 some [.b (decide ((len:Int)=0))]) (
 some [.b false])) λkl=>
 gC kl λNF xh=>
 gB NF λx1=>
 gN xh<|
 bd (
 bl x1 (
 some (0,[.i .i64 0,.i .i64 0,.i .i64 0,.i .i64 0,.b false,.i .i64 0,.s ([]:List UInt8),.list ([]:List MV),.list ([]:List MV),.i .i64 0,.i .i64 0,.s ([]:List UInt8)])) (
 bd (qn (.agg [.i .i64 SF,.i .i64 ST]) (.i .i64 lE) (.list acV) (.s ra)) λrA=>
 gB rA λx2=>
 bl (!x2) (
 some (1,[.i .i64 SF,.i .i64 ST,.i .i64 Me,.i .i64 View,.b Has,.i .i64 At,.s Value,.list Proof,.list iy,.i .i64 0,.i .i64 0,.s ([]:List UInt8),.b false])) (
 some (0,[.i .i64 0,.i .i64 0,.i .i64 0,.i .i64 0,.b false,.i .i64 0,.s ([]:List UInt8),.list ([]:List MV),.list ([]:List MV),.i .i64 0,.i .i64 0,.s ([]:List UInt8)])))) λp=>
 bl (sh p.1 1) (
 gC p.2 λKz xi=>
 gI .i64 Kz λx3=>
 gC xi λDR lC=>
 gI .i64 DR λx4=>
 gC lC λKA uh=>
 gI .i64 KA λx5=>
 gC uh λIQ xj=>
 gI .i64 IQ λx6=>
 gC xj λPF uj=>
 gB PF λx7=>
 gC uj λUZ Jm=>
 gI .i64 UZ λx8=>
 gC Jm λFj se=>
 gS Fj λx9=>
 gC se λKB na=>
 gL KB λqE=>
 gC na λU4 sb=>
 gL U4 λrB=>
 gC sb λVa uk=>
 gI .i64 Va λr8=>
 NG uk λr9 tA xf=>
 some (.ej [.agg (cK x3 x4 x5 x6 x7 x8 x9 qE rB),.agg [.i .i64 r8,.i .i64 r9,.s tA],.b xf])) (
 ca (sh p.1 0)<|
 gC p.2 λm24 Jp=>
 gI .i64 m24 λzx=>
 gC Jp λm25 YH=>
 gI .i64 m25 λwK=>
 gC YH λm26 YL=>
 gI .i64 m26 λKi=>
 gC YL λm27 PK=>
 gI .i64 m27 λV2=>
 gC PK λm28 IX=>
 gB m28 λU5=>
 gC IX λm29 PL=>
 gI .i64 m29 λU6=>
 gC PL λm30 D7=>
 gS m30 λU7=>
 gC D7 λm31 Jf=>
 gL m31 λx23=>
 gC Jf λm32 PT=>
 gL m32 λV3=>
 mA PT λTN U8 YG=>
 some (.ej [.agg (cK SF ST Me View true lE ra Proof iy),.agg [.i .i64 Me,.i .i64 lE,.s ra],.b true])))
def xq:GT:=bI 43 (RY nI) Ah
theorem Ai:SG xq:=Bw CN [] [] 62 [] [58] [(7,[4])] [(7,[0,1,2,3,4,5,6,7,8])] [(3,⟨[1,2,3,4,8,9],[],[],[(0,[(33,.sc (.k .b))])],[]⟩),(1,⟨[1,2,3,4,8,9],[],[],[(0,[(11,.sc (.k .b))])],[]⟩)] [(4,⟨[1,2,3,4],[],[],[(0,[(8,.box [.k (.i .i64),.k (.i .i64),.k (.i .i64),.k (.i .i64),.k .b,.k (.i .i64),.k .s,.k .l,.k .l]),(9,.box [.k (.i .i64),.k (.i .i64),.k .s])]),(1,[(8,.box [.k (.i .i64),.k (.i .i64),.k (.i .i64),.k (.i .i64),.k .b,.k (.i .i64),.k .s,.k .l,.k .l]),(9,.box [.k (.i .i64),.k (.i .i64),.k .s]),(10,.sc (.k .b))])],[]⟩)] [] [] Tryz.func43 (by kernel_rfl) (DL (λ_ _ _ _=>by kernel_rfl))
def qo (x:MV):Option MV:=gI .i64 x λx1=>some (.b (!decide (x1=x1)))
def Ed:GT:=bI 162 (qY qo) xq
theorem Fu:SG Ed:=qG Ai [] 6 [] [] [] Tryz.func162 (by kernel_rfl) (eK (λ_=>by kernel_rfl))
def nd (x y:MV):Option MV:=gI .i64 x λx1=>
 gI .i64 y λy1=>
 bd (qo (.i .i64 x1)) λrA=>
 gB rA λx2=>
 bd (qo (.i .i64 y1)) λbc=>
 gB bc λx3=>
 bl x2 (
 bl x3 (
 some (.i .i64 0)) (
 some (.i .i64 (-1)))) (
 bl x3 (
 some (.i .i64 1)) (
 bl (decide (x1<y1)) (
 some (.i .i64 (-1))) (
 bl (decide (y1<x1)) (
 some (.i .i64 1)) (
 some (.i .i64 0)))))
def Aj:GT:=bI 106 (iw nd) Ed
theorem CO:SG Aj:=qG Fu [] 20 [] [] [] Tryz.func106 (by kernel_rfl) (bS (λ_ _=>by kernel_rfl))
def vM (x qF:MV):Option MV:=gA x λcs=>
 mA cs λBy View Value=>
 gI .i64 qF λR6=>
 bd (nd (.i .i64 By) (.i .i64 R6)) λrA=>
 gI .i64 rA λx1=>
 some (.i .i64 x1)
def Ak:GT:=bI 155 (iw vM) Aj
theorem G6:SG Ak:=qG CO [] 9 [] [] [] Tryz.func155 (by kernel_rfl) (bS (λ_ _=>by kernel_rfl))
def da:GT:=Ak
theorem j7 (x0 x1:MV):da 155 [x0,x1]=vM x0 x1:=by kernel_rfl
def dt (x target cmp:MV):Option MV:=gL x λx1=>
 gI .i64 target λEe=>
 gR cmp λYM=>
 bq x1 λlen=>
 bd (Loop (λuW=>
 Dd uW λi j=>
 bl (decide (i<j)) (
 ca (decide ((0:Int)<=1))<|
 idx x1 (eJ .i64 (OF (eJ .u64 (eJ .i64 (i+j))) (2^min (AI 1) (BY .u64)))) λy=>
 gA y λcs=>
 mA cs λBy View Value=>
 QJ YM λfn cap=>
 ca (!gv fn)<|
 bd (da fn ([.agg [.i .i64 By,.i .i64 View,.s Value],.i .i64 Ee]++cap)) λrA=>
 gI .i64 rA λx2=>
 bd (
 bl (decide (x2<0)) (
 some (0,[.i .i64 (eJ .i64 ((eJ .i64 (OF (eJ .u64 (eJ .i64 (i+j))) (2^min (AI 1) (BY .u64))))+1)),.i .i64 j])) (
 some (0,[.i .i64 i,.i .i64 (eJ .i64 (OF (eJ .u64 (eJ .i64 (i+j))) (2^min (AI 1) (BY .u64))))]))) λp1=>
 ca (sh p1.1 0)<|
 oII .i64 .i64 p1.2 λi1 j1=>
 some (.inl [.i .i64 i1,.i .i64 j1])) (
 some (.inr (2,[.i .i64 i])))) [.i .i64 0,.i .i64 (len:Int)]) λp=>
 ca (sh p.1 2)<|
 gC p.2 λm7 Ad=>
 gI .i64 m7 λi2=>
 gN Ad<|
 bd (
 bl (decide (i2<(len:Int))) (
 idx x1 i2 λy1=>
 gA y1 λfF=>
 mA fF λNK ek bN=>
 QJ YM λBh sj=>
 ca (!gv Bh)<|
 bd (da Bh ([.agg [.i .i64 NK,.i .i64 ek,.s bN],.i .i64 Ee]++sj)) λbc=>
 gI .i64 bc λx3=>
 some [.i .i64 i2,.b (decide (x3=0))]) (
 some [.i .i64 i2,.b false])) λvs=>
 gC vs λKz lC=>
 gI .i64 Kz λx4=>
 gC lC λDR uh=>
 gB DR λx5=>
 gN uh<|
 some (.ej [.i .i64 x4,.b x5])
def iO:GT:=bI 154 (Bv dt) Ak
theorem mD:SG iO:=qG G6 [] 49 [(8,⟨[0,1,2,8,9],[],[],[(0,[(6,.sc (.k (.i .i64))),(7,.sc (.k .b))])],[]⟩)] [(6,⟨[0,1,2,8,11],[],[],[(0,[(9,.sc (.k (.i .i64))),(10,.sc (.k (.i .i64)))])],[]⟩)] [(3,⟨[0,1,2,8],[],[(9,.sc (.k (.i .i64))),(10,.sc (.k (.i .i64)))],[(2,[(9,.sc (.k (.i .i64)))])],[]⟩)] Tryz.func154 (by kernel_rfl) (mj (λ_ _ _=>by kernel_rfl))
def rc (t a:MV):Option MV:=gA t λcs=>
 gC cs λm uW=>
 gL m λL=>
 gN uW<|
 gA a λfF=>
 mA fF λBy View Value=>
 bd (nF (.agg [.i .i64 By,.i .i64 View,.s Value])) λrA=>
 gB rA λx=>
 bl (!x) (
 some (.ej [.agg [.list L],.b false])) (
 bd (dt (.list L) (.i .i64 By) (.func 155 [])) λbc=>
 gT bc λvs=>
 gC vs λm4 CH=>
 gI .i64 m4 λx1=>
 gC CH λm5 Fk=>
 gB m5 λx2=>
 gN Fk<|
 bd (
 bl x2 (
 idx L x1 λy=>
 gA y λqC=>
 mA qC λNK ek bN=>
 some [.b (decide (View<=ek))]) (
 some [.b false])) λkl=>
 gC kl λm9 ui=>
 gB m9 λx3=>
 gN ui<|
 bl x3 (
 some (.ej [.agg [.list L],.b false])) (
 bd (jX 3 32 [.list L]) λbQ=>
 gF bQ λxs=>
 bd (
 bl x2 (
 idx xs x1 λy1=>
 gA y1 λxH=>
 mA xH λBy2 Gp j6=>
 some (0,[.list (xs.set (AI x1) (.agg [.i .i64 By,.i .i64 View,.s Value]))])) (
 bd (pS 32 [.fresh xs,.i .i64 x1,.fresh ([.agg [.i .i64 By,.i .i64 View,.s Value]]:List MV)]) λct=>
 gF ct λGX=>
 some (0,[.list GX]))) λp=>
 ca (sh p.1 0)<|
 gC p.2 λKA uh=>
 gL KA λlA=>
 gN uh<|
 some (.ej [.agg [.list lA],.b true])))
def L8:GT:=bI 97 (iw rc) iO
theorem KK:SG L8:=Bw mD [] [] 49 [] [] [] [(4,[0,1,2,3,4,5,6,7,8,9,10,11])] [(4,⟨[2,3,4,6,7],[],[],[(0,[(32,.sc (.k .b))])],[45,46]⟩)] [(8,⟨[3,4,6],[],[],[(0,[(8,.sc (.own 36 58 false))])],[45,46]⟩)] [] [] Tryz.func97 (by kernel_rfl) (bS (λ_ _=>by kernel_rfl))
def o7 (a a1:MV):Option MV:=gA a λcs=>
 gC cs λm uW=>
 gL m λL=>
 gN uW<|
 gI .i64 a1 λmC=>
 bq L λlen=>
 bd (Loop (λqe=>
 Gj qe λes x=>
 bl (decide (x<(len:Int))) (
 idx L x λy=>
 gA y λfF=>
 mA fF λBy View Value=>
 ca (decide ((0:Int)<=(cI es ([.i .i64 View,.s Value]:List MV):Int)/\AI (cI es ([.i .i64 View,.s Value]:List MV):Int)<(nY es ([.i .i64 View,.s Value]:List MV) (.i .i64 0)).length))<|
 some (.inl [.list (tM (nY es ([.i .i64 View,.s Value]:List MV) (.i .i64 0)) (AI (cI es ([.i .i64 View,.s Value]:List MV):Int)) (.i .i64 (eJ .i64 ((n8 es ([.i .i64 View,.s Value]:List MV))+1)))),.i .i64 (eJ .i64 (x+1))])) (
 some (.inr (2,[.list es])))) [.list ([]:List MV),.i .i64 0]) λp=>
 ca (sh p.1 2)<|
 gC p.2 λm6 CI=>
 gL m6 λes1=>
 gN CI<|
 bq L λez=>
 bd (Loop (λAd=>
 gC Ad λm7 ui=>
 gI .i64 m7 λx1=>
 gC ui λm8 xh=>
 gS m8 λx2=>
 gC xh λm9 xi=>
 gB m9 λx3=>
 gC xi λNF lC=>
 gI .i64 NF λx4=>
 gN lC<|
 bl (decide (x4<(ez:Int))) (
 idx L x4 λy1=>
 gA y1 λqC=>
 mA qC λNK ek bN=>
 bd (
 bl (decide ((1:Int)<=mC)) (
 bl (decide (mC<=(n8 es1 ([.i .i64 ek,.s bN]:List MV)))) (
 some [.b (decide (x1<ek))]) (
 some [.b false])) (
 some [.b false])) λvs=>
 gC vs λIQ Jm=>
 gB IQ λx5=>
 gN Jm<|
 bd (
 bl x5 (
 some (0,[.i .i64 ek,.s bN,.b true])) (
 some (0,[.i .i64 x1,.s x2,.b x3]))) λp2=>
 ca (sh p2.1 0)<|
 abl .i64 p2.2 λx6 x7 x8=>
 some (.inl [.i .i64 x6,.s x7,.b x8,.i .i64 (eJ .i64 (x4+1))])) (
 some (.inr (4,[.i .i64 x1,.s x2,.b x3])))) [.i .i64 (-1),.s ([]:List UInt8),.b false,.i .i64 0]) λp1=>
 ca (sh p1.1 4)<|
 abl .i64 p1.2 λx9 qE rB=>
 bl (!rB) (
 some (.ej [.i .i64 0,.s ([]:List UInt8),.b false])) (
 some (.ej [.i .i64 x9,.s qE,.b true]))
def Jq:GT:=bI 158 (iw o7) L8
theorem Jr:SG Jq:=Bw KK [] [] 71 [] [] [] [(5,[0,1,2,3,4,5,6,7,8,9,10]),(17,[0,1,2,3,4,5,6])] [(12,⟨[1,7,10,11,14,36,37,38],[],[],[(0,[(62,.sc (.k .b))])],[]⟩)] [(13,⟨[1,7,14,36,37,38],[],[],[(0,[(10,.box [.k (.i .i64),.k .s]),(11,.sc (.k .b))])],[]⟩)] [(9,⟨[1,7,36,37],[],[(10,.box [.k (.i .i64),.k .s]),(11,.sc (.k .b)),(38,.sc (.k (.i .i64)))],[(4,[(10,.box [.k (.i .i64),.k .s]),(11,.sc (.k .b))])],[]⟩),(3,⟨[1,2,17,18],[],[(7,.mp ⟨true,[.i .i64,.s],false⟩),(19,.sc (.k (.i .i64)))],[(2,[(7,.mp ⟨true,[.i .i64,.s],false⟩)])],[]⟩)] [] Tryz.func158 (by kernel_rfl) (bS (λ_ _=>by kernel_rfl))
def yw (sA t:MV):Option MV:=gA sA λcs=>
 Dd cs λF T=>
 gA t λfF=>
 gC fF λm2 n6=>
 gL m2 λL=>
 gN n6<|
 bd (o6 (.agg [.i .i64 F,.i .i64 T])) λrA=>
 gI .i64 rA λx=>
 bd (o7 (.agg [.list L]) (.i .i64 x)) λbc=>
 gT bc λvs=>
 NG vs λx1 x2 x3=>
 bl (!x3) (
 some (.ej [.list ([]:List MV),.b false])) (
 bd (qh (.agg [.list L]) (.i .i64 x1) (.s x2)) λbQ=>
 gL bQ λx4=>
 bd (o6 (.agg [.i .i64 F,.i .i64 T])) λct=>
 gI .i64 ct λx5=>
 bq x4 λlen=>
 ca (decide ((0:Int)<=0/\(0:Int)<=x5/\x5<=(len:Int)))<|
 some (.ej [.list (IT (AI 0) (No (AI x5) x4)),.b true]))
def Js:GT:=bI 98 (iw yw) Jq
theorem Jt:SG Js:=Bw Jr [] [] 26 [] [] [] [(1,[0,1,2,3,4,5,6,7,8,9,10]),(4,[0,1,2,4,3,5,6,7,8])] [] [] [] [] Tryz.func98 (by kernel_rfl) (bS (λ_ _=>by kernel_rfl))
def rH (a a1:MV):Option MV:=gA a λcs=>
 fI cs λSF ST Me View Has At Value Proof iy=>
 gA a1 λfF=>
 mA fF λBy ek bN=>
 bd (
 bd (sB (.agg [.i .i64 SF,.i .i64 ST])) λrA=>
 gI .i64 rA λx=>
 bl (decide (x<=By)) (
 some [.b true]) (
 some [.b (!decide (ek=View))])) λvs=>
 gC vs λDR lC=>
 gB DR λx1=>
 gN lC<|
 bl x1 (
 some (.ej [.agg (cK SF ST Me View Has At Value Proof iy),.list ([]:List MV),.b false])) (
 bd (rc (.agg [.list iy]) (.agg [.i .i64 By,.i .i64 ek,.s bN])) λbc=>
 gT bc λkl=>
 gC kl λKA uh=>
 gA KA λqC=>
 gC qC λIQ xj=>
 gL IQ λL=>
 gN xj<|
 gC uh λPF uj=>
 gB PF λx2=>
 gN uj<|
 bd (yw (.agg [.i .i64 SF,.i .i64 ST]) (.agg [.list L])) λbQ=>
 gT bQ λtV=>
 gC tV λUZ Jm=>
 gL UZ λx3=>
 gC Jm λFj se=>
 gB Fj λx4=>
 gN se<|
 bd (uq (.list Proof)) λct=>
 gT ct λYJ=>
 NG YJ λx5 x6 x7=>
 bd (
 bd (nF (.agg [.i .i64 By,.i .i64 ek,.s bN])) λgm=>
 gB gm λx8=>
 bl (!x8) (
 some [.b true]) (
 bl (!x4) (
 some [.b true]) (
 some [.b (decide (View<=x5))]))) λvs4=>
 gC vs4 λm21 DW=>
 gB m21 λx9=>
 gN DW<|
 bl x9 (
 some (.ej [.agg (cK SF ST Me View Has At Value Proof L),.list ([]:List MV),.b false])) (
 some (.ej [.agg (cK SF ST Me View Has At Value x3 L),.list x3,.b true])))
def B5:GT:=bI 44 (iw rH) Js
theorem Ef:SG B5:=Bw Jt [] [] 67 [] [] [] [(1,[0,1,2,3,4,5,6,7,8,9,10,11,12])] [(6,⟨[2,3,4,7,8,9],[],[],[(0,[(61,.sc (.k .b))])],[]⟩),(1,⟨[2,3,4],[],[],[(0,[(24,.sc (.k .b))])],[]⟩)] [] [] [] Tryz.func44 (by kernel_rfl) (bS (λ_ _=>by kernel_rfl))
def Bi (sA:MV):Option MV:=gA sA λcs=>
 Dd cs λF T=>
 bd (jP (.agg [.i .i64 F,.i .i64 T]) (.raw (.complex .f64 4613937818241073152 4607182418800017408))) λrA=>
 gI .i64 rA λx=>
 some (.i .i64 x)
def tC:GT:=bI 28 (qY Bi) B5
theorem KL:SG tC:=qG Ef [] 5 [] [] [] Tryz.func28 (by kernel_rfl) (eK (λ_=>by kernel_rfl))
def qp:Ctx:=Ou tC [(1,1002001)] 54 [] [] [] [(1,[0,1,2,3,4,5,6,7,8,9,10,11,12,13,14,15,16,17,18,19]),(3,[0,1,2,3,4,5,6,7,8,9,10])] [(1,⟨[1,3,4,6,1002001],[],[],[(0,[(32,.sc (.k .b))])],[]⟩)] [] [] []
def gh (lA:MV)(t:List MV)(a:MV)(b9:MV):Option MV:=gA lA λcs=>
 fJ cs λSF ST fh fj pq cq Value=>
 gA a λfF=>
 mA fF λBy View bN=>
 gI .i64 b9 λPU=>
 fJ t λwk wm dJ dK j8 qM j6=>
 bd (
 bl cq (
 some [.b true]) (
 bl (decide (By<0)) (
 some [.b true]) (
 bd (sB (.agg [.i .i64 SF,.i .i64 ST])) λrA=>
 gI .i64 rA λx=>
 bl (decide (x<=By)) (
 some [.b true]) (
 bd (nF (.agg [.i .i64 By,.i .i64 View,.s bN])) λbc=>
 gB bc λx1=>
 some [.b (!x1)])))) λvs=>
 gC vs λFj se=>
 gB Fj λx2=>
 gN se<|
 bl x2 (
 some (.fZ (.ej [.b false,.s ([]:List UInt8)]) (cL wk wm dJ dK j8 qM j6))) (
 bd (rc (.agg [.list dJ]) (.agg [.i .i64 By,.i .i64 View,.s bN])) λbQ=>
 gT bQ λkl=>
 gC kl λKB na=>
 gA KB λqC=>
 gC qC λU4 sb=>
 gL U4 λL=>
 gN sb<|
 gC na λVa uk=>
 gB Va λx3=>
 gN uk<|
 bd (o7 (.agg [.list L]) (.i .i64 PU)) λct=>
 gT ct λtV=>
 NG tV λx4 x5 x6=>
 some (.fZ (.ej [.b x6,.s x5]) (cL wk wm L dK j8 qM j6)))
theorem wv (lA:MV)(t:List MV)(a:MV)(b9:MV):Dg qp [] 1 LV Tryz.f101 [lA,.cell (.func 2 t),a,b9]=gh lA t a b9:=by kernel_rfl
def qq:Ctx:=Ou tC [(1,1003001)] 54 [] [] [] [(1,[0,1,2,3,4,5,6,7,8,9,10,11,12,13,14,15,16,17,18,19]),(3,[0,1,2,3,4,5,6,7,8,9,10])] [(1,⟨[1,3,4,6,1003001],[],[],[(0,[(32,.sc (.k .b))])],[]⟩)] [] [] []
def gj (lA:MV)(t:List MV)(a:MV)(b9:MV):Option MV:=gA lA λcs=>
 fJ cs λSF ST fh fj pq cq Value=>
 gA a λfF=>
 mA fF λBy View bN=>
 gI .i64 b9 λPU=>
 fJ t λwk wm dJ dK j8 qM j6=>
 bd (
 bl cq (
 some [.b true]) (
 bl (decide (By<0)) (
 some [.b true]) (
 bd (sB (.agg [.i .i64 SF,.i .i64 ST])) λrA=>
 gI .i64 rA λx=>
 bl (decide (x<=By)) (
 some [.b true]) (
 bd (nF (.agg [.i .i64 By,.i .i64 View,.s bN])) λbc=>
 gB bc λx1=>
 some [.b (!x1)])))) λvs=>
 gC vs λFj se=>
 gB Fj λx2=>
 gN se<|
 bl x2 (
 some (.fZ (.ej [.b false,.s ([]:List UInt8)]) (cL wk wm dJ dK j8 qM j6))) (
 bd (rc (.agg [.list dK]) (.agg [.i .i64 By,.i .i64 View,.s bN])) λbQ=>
 gT bQ λkl=>
 gC kl λKB na=>
 gA KB λqC=>
 gC qC λU4 sb=>
 gL U4 λL=>
 gN sb<|
 gC na λVa uk=>
 gB Va λx3=>
 gN uk<|
 bd (o7 (.agg [.list L]) (.i .i64 PU)) λct=>
 gT ct λtV=>
 NG tV λx4 x5 x6=>
 some (.fZ (.ej [.b x6,.s x5]) (cL wk wm dJ L j8 qM j6)))
theorem wz (lA:MV)(t:List MV)(a:MV)(b9:MV):Dg qq [] 1 LV Tryz.f101 [lA,.cell (.func 3 t),a,b9]=gj lA t a b9:=by kernel_rfl
def qt:Ctx:=Ou tC [(1,1004001)] 54 [] [] [] [(1,[0,1,2,3,4,5,6,7,8,9,10,11,12,13,14,15,16,17,18,19]),(3,[0,1,2,3,4,5,6,7,8,9,10])] [(1,⟨[1,3,4,6,1004001],[],[],[(0,[(32,.sc (.k .b))])],[]⟩)] [] [] []
def gk (lA:MV)(t:List MV)(a:MV)(b9:MV):Option MV:=gA lA λcs=>
 fJ cs λSF ST fh fj pq cq Value=>
 gA a λfF=>
 mA fF λBy View bN=>
 gI .i64 b9 λPU=>
 fJ t λwk wm dJ dK j8 qM j6=>
 bd (
 bl cq (
 some [.b true]) (
 bl (decide (By<0)) (
 some [.b true]) (
 bd (sB (.agg [.i .i64 SF,.i .i64 ST])) λrA=>
 gI .i64 rA λx=>
 bl (decide (x<=By)) (
 some [.b true]) (
 bd (nF (.agg [.i .i64 By,.i .i64 View,.s bN])) λbc=>
 gB bc λx1=>
 some [.b (!x1)])))) λvs=>
 gC vs λFj se=>
 gB Fj λx2=>
 gN se<|
 bl x2 (
 some (.fZ (.ej [.b false,.s ([]:List UInt8)]) (cL wk wm dJ dK j8 qM j6))) (
 bd (rc (.agg [.list j8]) (.agg [.i .i64 By,.i .i64 View,.s bN])) λbQ=>
 gT bQ λkl=>
 gC kl λKB na=>
 gA KB λqC=>
 gC qC λU4 sb=>
 gL U4 λL=>
 gN sb<|
 gC na λVa uk=>
 gB Va λx3=>
 gN uk<|
 bd (o7 (.agg [.list L]) (.i .i64 PU)) λct=>
 gT ct λtV=>
 NG tV λx4 x5 x6=>
 some (.fZ (.ej [.b x6,.s x5]) (cL wk wm dJ dK L qM j6)))
theorem wA (lA:MV)(t:List MV)(a:MV)(b9:MV):Dg qt [] 1 LV Tryz.f101 [lA,.cell (.func 4 t),a,b9]=gk lA t a b9:=by kernel_rfl
abbrev ng:List MV->Option MV:=λms=>match ms with|[a0,.cell (.func off a1),a2,a3]=>(match sh off 2 with|true=>gh a0 a1 a2 a3|false=>(match sh off 3 with|true=>gj a0 a1 a2 a3|false=>(match sh off 4 with|true=>gk a0 a1 a2 a3|false=>none)))|_=>none
theorem xr {ms:List MV}{r:MV}(h:ng ms=some r): ∃c':Ctx,Bt cx c'/\c'.g=tC/\Ps c' 101 Tryz.f101 []=true/\Dg c' [] 1 LV Tryz.f101 ms=some r:=by
 unfold ng at h;split at h
 ·rename_i a0 off a1 a2 a3;cases cU:sh off 2 with
  |true=>have:=AT cU;subst this;exact ⟨qp,⟨rfl,rfl,rfl,rfl,rfl,rfl,rfl,rfl,rfl⟩,rfl,by kernel_rfl,(wv _ _ _ _).trans h⟩
  |false=>
  rw [cU] at h;simp only at h;cases Rg:sh off 3 with
  |true=>have:=AT Rg;subst this;exact ⟨qq,⟨rfl,rfl,rfl,rfl,rfl,rfl,rfl,rfl,rfl⟩,rfl,by kernel_rfl,(wz _ _ _ _).trans h⟩
  |false=>
  rw [Rg] at h;simp only at h;cases ho4:sh off 4 with
  |true=>have:=AT ho4;subst this;exact ⟨qt,⟨rfl,rfl,rfl,rfl,rfl,rfl,rfl,rfl,rfl⟩,rfl,by kernel_rfl,(wA _ _ _ _).trans h⟩
  |false=>
  rw [ho4] at h;simp only at h;cases h
 ·cases h
def sk:GT:=bI 101 ng tC
theorem wB:SG sk:=KL.fnC (pos:=1) (ks:=LV) (dm:=[]) q9 LQ LS PJ Ab DS Tryz.func101 (by kernel_rfl) (λ_=>rfl) xr
def nJ (lA a:MV):Option MV:=gA lA λcs=>
 fJ cs λSF ST fh fj pq cq Value=>
 gA a λfF=>
 mA fF λBy View bN=>
 bd (Bi (.agg [.i .i64 SF,.i .i64 ST])) λrA=>
 gI .i64 rA λx=>
 bd (gh (.agg (cL SF ST fh fj pq cq Value)) (cL SF ST fh fj pq cq Value) (.agg [.i .i64 By,.i .i64 View,.s bN]) (.i .i64 x)) λbc=>
 gW bc λx1 ls=>
 fJ ls λwk wm dJ dK j8 qM j6=>
 gT x1 λvs=>
 gC vs λFj se=>
 gB Fj λx2=>
 gC se λKB na=>
 gS KB λx3=>
 gN na<|
 bd (
 bl x2 (
 some (0,(cL wk wm dJ dK j8 true x3))) (
 some (0,(cL wk wm dJ dK j8 qM j6)))) λp=>
 ca (sh p.1 0)<|
 Ac .i64 .i64 p.2 λL6 lA2 lA3 lA4 lA5 lA6 lA7=>
 some (.agg (cL L6 lA2 lA3 lA4 lA5 lA6 lA7))
def xt:GT:=bI 45 (iw nJ) sk
theorem Al:SG xt:=Bw wB [] [] 22 [] [] [] [(1,[0,1,2,3,4,5,6,7,8,9,10,11])] [] [(3,⟨[4,6],[],[],[(0,[(2,.box [.k (.i .i64),.k (.i .i64),.k .l,.k .l,.k .l,.k .b,.k .s])])],[]⟩)] [] [] Tryz.func45 (by kernel_rfl) (bS (λ_ _=>by kernel_rfl))
def mq (lA qF p:MV):Option MV:=gA lA λcs=>
 fJ cs λSF ST fh fj pq cq Value=>
 gI .i64 qF λR6=>
 gL p λp1=>
 bd (pu (.agg [.i .i64 SF,.i .i64 ST]) (.list p1)) λrA=>
 gB rA λx=>
 bl (!x) (
 some (.agg (cL SF ST fh fj pq cq Value))) (
 bd (uq (.list p1)) λbc=>
 gT bc λvs=>
 NG vs λx1 x2 x3=>
 bd (o6 (.agg [.i .i64 SF,.i .i64 ST])) λbQ=>
 gI .i64 bQ λx4=>
 bd (gj (.agg (cL SF ST fh fj pq cq Value)) (cL SF ST fh fj pq cq Value) (.agg [.i .i64 R6,.i .i64 x1,.s x2]) (.i .i64 x4)) λct=>
 gW ct λx5 ls=>
 fJ ls λwk wm dJ dK j8 qM bN=>
 gT x5 λkl=>
 gC kl λFj se=>
 gB Fj λx6=>
 gC se λKB na=>
 gS KB λx7=>
 gN na<|
 bd (
 bl x6 (
 some (0,(cL wk wm dJ dK j8 true x7))) (
 some (0,(cL wk wm dJ dK j8 qM bN)))) λp2=>
 ca (sh p2.1 0)<|
 Ac .i64 .i64 p2.2 λL6 lA2 lA3 lA4 lA5 lA6 lA7=>
 some (.agg (cL L6 lA2 lA3 lA4 lA5 lA6 lA7)))
def vN:GT:=bI 46 (Bv mq) xt
theorem zl:SG vN:=Bw Al [] [] 42 [] [] [] [(4,[0,1,2,3,4,5,6,7,8,9,10,11,12,13,14])] [] [(6,⟨[6,11],[],[],[(0,[(3,.box [.k (.i .i64),.k (.i .i64),.k .l,.k .l,.k .l,.k .b,.k .s])])],[]⟩)] [] [] Tryz.func46 (by kernel_rfl) (mj (λ_ _ _=>by kernel_rfl))
def oS (x qF:MV):Option MV:=gA x λcs=>
 il cs λBy jo Has View Value Proof=>
 gI .i64 qF λR6=>
 bd (nd (.i .i64 By) (.i .i64 R6)) λrA=>
 gI .i64 rA λx1=>
 some (.i .i64 x1)
def sC:GT:=bI 105 (iw oS) vN
theorem BB:SG sC:=qG zl [] 9 [] [] [] Tryz.func105 (by kernel_rfl) (bS (λ_ _=>by kernel_rfl))
def db:GT:=sC
theorem iX (x0 x1:MV):db 105 [x0,x1]=oS x0 x1:=by kernel_rfl
def du (x target cmp:MV):Option MV:=gL x λx1=>
 gI .i64 target λEe=>
 gR cmp λYM=>
 bq x1 λlen=>
 bd (Loop (λuW=>
 Dd uW λi j=>
 bl (decide (i<j)) (
 ca (decide ((0:Int)<=1))<|
 idx x1 (eJ .i64 (OF (eJ .u64 (eJ .i64 (i+j))) (2^min (AI 1) (BY .u64)))) λy=>
 gA y λcs=>
 il cs λBy jo Has View Value Proof=>
 QJ YM λfn cap=>
 ca (!gv fn)<|
 bd (db fn ([.agg (bt By jo Has View Value Proof),.i .i64 Ee]++cap)) λrA=>
 gI .i64 rA λx2=>
 bd (
 bl (decide (x2<0)) (
 some (0,[.i .i64 (eJ .i64 ((eJ .i64 (OF (eJ .u64 (eJ .i64 (i+j))) (2^min (AI 1) (BY .u64))))+1)),.i .i64 j])) (
 some (0,[.i .i64 i,.i .i64 (eJ .i64 (OF (eJ .u64 (eJ .i64 (i+j))) (2^min (AI 1) (BY .u64))))]))) λp1=>
 ca (sh p1.1 0)<|
 oII .i64 .i64 p1.2 λi1 j1=>
 some (.inl [.i .i64 i1,.i .i64 j1])) (
 some (.inr (2,[.i .i64 i])))) [.i .i64 0,.i .i64 (len:Int)]) λp=>
 ca (sh p.1 2)<|
 gC p.2 λNF xi=>
 gI .i64 NF λi2=>
 gN xi<|
 bd (
 bl (decide (i2<(len:Int))) (
 idx x1 i2 λy1=>
 gA y1 λfF=>
 il fF λNK Vb Bz ek bN eR=>
 QJ YM λBh sj=>
 ca (!gv Bh)<|
 bd (db Bh ([.agg (bt NK Vb Bz ek bN eR),.i .i64 Ee]++sj)) λbc=>
 gI .i64 bc λx3=>
 some [.i .i64 i2,.b (decide (x3=0))]) (
 some [.i .i64 i2,.b false])) λvs=>
 gC vs λFj na=>
 gI .i64 Fj λx4=>
 gC na λKB sb=>
 gB KB λx5=>
 gN sb<|
 some (.ej [.i .i64 x4,.b x5])
def iP:GT:=bI 104 (Bv du) sC
theorem mE:SG iP:=qG BB [] 49 [(8,⟨[0,1,2,8,9],[],[],[(0,[(6,.sc (.k (.i .i64))),(7,.sc (.k .b))])],[]⟩)] [(6,⟨[0,1,2,8,11],[],[],[(0,[(9,.sc (.k (.i .i64))),(10,.sc (.k (.i .i64)))])],[]⟩)] [(3,⟨[0,1,2,8],[],[(9,.sc (.k (.i .i64))),(10,.sc (.k (.i .i64)))],[(2,[(9,.sc (.k (.i .i64)))])],[]⟩)] Tryz.func104 (by kernel_rfl) (mj (λ_ _ _=>by kernel_rfl))
def rI (n:List MV)(sA:MV)(i:MV)(rA:MV):Option MV:=gA sA λcs=>
 Dd cs λF T=>
 gI .i64 i λi1=>
 gA rA λfF=>
 il fF λBy jo Has View Value Proof=>
 aQ n λyR yS yT eg lD yU dE dF cG yV yW bG bH dG fm dH df jy=>
 bd (du (.list df) (.i .i64 By) (.func 105 [])) λbc=>
 gT bc λvs=>
 gC vs λm26 YL=>
 gI .i64 m26 λx=>
 gC YL λm27 PK=>
 gB m27 λx1=>
 gN PK<|
 bd (
 bl (!x1) (
 bl (decide (eg=jo)) (
 bd (pw (.agg [.i .i64 F,.i .i64 T]) (.i .i64 jo)) λbQ=>
 gI .i64 bQ λx2=>
 bl (decide (x2=i1)) (
 bd (ux (.agg [.i .i64 F,.i .i64 T]) (.agg (bt By jo Has View Value Proof))) λct=>
 gB ct λx3=>
 some [.b x3]) (
 some [.b false])) (
 some [.b false])) (
 some [.b false])) λkl=>
 gC kl λm28 IX=>
 gB m28 λx4=>
 gN IX<|
 bd (
 bl x4 (
 both (
 bd (jX 6 72 [.list df]) λgm=>
 gF gm λxs=>
 bd (pS 72 [.fresh xs,.i .i64 x,.fresh ([.agg (bt By jo Has View Value Proof)]:List MV)]) λlz=>
 gF lz λGX=>
 some (0,(av yR yS yT eg lD yU dE dF cG yV yW bG bH dG fm dH GX jy))) (
 bd (jX 6 72 [.list df]) λqK=>
 gF qK λKF=>
 bd (pS 72 [.fresh KF,.i .i64 x,.fresh ([.agg (bt By jo Has View Value Proof)]:List MV)]) λzw=>
 gF zw λOv=>
 some (0,(av yR yS yT eg lD yU dE dF cG yV yW bG bH dG fm dH Ov jy)))) (
 some (0,(av yR yS yT eg lD yU dE dF cG yV yW bG bH dG fm dH df jy)))) λp=>
 ca (sh p.1 0)<|
 fN .i64 .i64 .i64 .i64 .i64 .i64 .i64 .i64 p.2 λx5 x6 x7 x8 x9 qE rB r8 r9 tA xf zx wK Ki V2 U5 U6 U7=>
 some (.fZ (.ej []) (av x5 x6 x7 x8 x9 qE rB r8 r9 tA xf zx wK Ki V2 U5 U6 U7))
def B6:GT:=bI 47 (cl4 rI) iP
theorem Eg:SG B6:=fnC mE 0 acS [] [(0,1000000)] 57 [54] [] [] [(1,[0,1,2,3,4,5,6,7,8,9,10,11]),(2,[0,1,2,3,4,5,6,7,8,9,10,11,12,13,14,15,17,16,18,19,20,21,22,23,24]),(3,[0,1,2,3,4,6,7,5,8,9,10,11,12,0,1,2,3,4,6,7,8,5,9,10,11,12,13,5,8])] [(2,⟨[0,2,5,7,8,9,1000000],[],[],[(0,[(44,.sc (.k .b))])],[50,53]⟩)] [(3,⟨[0,7,8],[],[],[(0,[(1000000,.box [.k (.i .i64),.k (.i .i64),.k (.i .i64),.k (.i .i64),.k .b,.k (.i .i64),.k .s,.k .l,.k .l,.k (.i .i64),.k (.i .i64),.k .l,.k .l,.k .l,.k .b,.k .s,.k .l,.k (.i .i64)])])],[50,53]⟩)] [] [] Tryz.func47 (by kernel_rfl) (by kernel_rfl) (Yy λ_ _ _ _=>by kernel_rfl)
def Bj (sA:MV):Option MV:=gA sA λcs=>
 Dd cs λF T=>
 bd (jP (.agg [.i .i64 F,.i .i64 T]) (.raw (.complex .f64 4607182418800017408 0))) λrA=>
 gI .i64 rA λx=>
 some (.i .i64 x)
def L9:GT:=bI 109 (qY Bj) B6
theorem KM:SG L9:=qG Eg [] 5 [] [] [] Tryz.func109 (by kernel_rfl) (eK (λ_=>by kernel_rfl))
def td (lA qF value:MV):Option MV:=gA lA λcs=>
 fJ cs λSF ST fh fj pq cq Value=>
 gI .i64 qF λR6=>
 gS value λra=>
 bd (Bj (.agg [.i .i64 SF,.i .i64 ST])) λrA=>
 gI .i64 rA λx=>
 bd (gk (.agg (cL SF ST fh fj pq cq Value)) (cL SF ST fh fj pq cq Value) (.agg [.i .i64 R6,.i .i64 0,.s ra]) (.i .i64 x)) λbc=>
 gW bc λx1 ls=>
 fJ ls λwk wm dJ dK j8 qM bN=>
 gT x1 λvs=>
 gC vs λIQ xj=>
 gB IQ λx2=>
 gC xj λPF uj=>
 gS PF λx3=>
 gN uj<|
 bd (
 bl x2 (
 some (0,(cL wk wm dJ dK j8 true x3))) (
 some (0,(cL wk wm dJ dK j8 qM bN)))) λp=>
 ca (sh p.1 0)<|
 Ac .i64 .i64 p.2 λL6 lA2 lA3 lA4 lA5 lA6 lA7=>
 some (.agg (cL L6 lA2 lA3 lA4 lA5 lA6 lA7))
def Eh:GT:=bI 48 (Bv td) L9
theorem Fv:SG Eh:=Bw KM [] [] 26 [] [] [] [(1,[0,1,2,3,4,5,6,7,8,9,10,11,12,13])] [] [(3,⟨[6,8],[],[],[(0,[(3,.box [.k (.i .i64),.k (.i .i64),.k .l,.k .l,.k .l,.k .b,.k .s])])],[]⟩)] [] [] Tryz.func48 (by kernel_rfl) (mj (λ_ _ _=>by kernel_rfl))
def yx (a a1 a2 a3:MV):Option MV:=gA a λcs=>
 Dd cs λF T=>
 gI .i64 a1 λmC=>
 gA a2 λfF=>
 aQ fF λyR yS yT eg lD yU dE dF cG yV yW bG bH dG fm dH df jy=>
 gA a3 λqC=>
 ch qC λKind eQ View Value dP eI dc cA Proof uR ju jv eB cO cM=>
 bd (
 bl (decide (Kind=1)) (
 bd (pw (.agg [.i .i64 F,.i .i64 T]) (.i .i64 View)) λrA=>
 gI .i64 rA λx=>
 bl (!decide (eQ=x)) (
 some (2,(ef yR yS yT eg lD yU dE dF cG yV yW bG bH dG fm dH df jy ([]:List MV)))) (
 bd (nI (.agg (cK yR yS yT eg lD yU dE dF cG)) (.i .i64 View) (.s Value) (.list dP)) λbc=>
 gT bc λvs=>
 gC vs λm35 aiK=>
 gA m35 λxH=>
 fI xH λSF ST Me ek Has At bN eR iy=>
 gC aiK λm45 PP=>
 gA m45 λcs4=>
 mA cs4 λBy Gp j6=>
 gC PP λm49 aiM=>
 gB m49 λx1=>
 gN aiM<|
 bd (
 bl x1 (
 bq ([.agg (aE 2 0 0 ([]:List UInt8) ([]:List MV) By Gp j6 ([]:List MV) 0 0 false 0 ([]:List UInt8) ([]:List MV))]:List MV) λlen=>
 ca (decide (len *192<=2^46))<|
 some (0,[.list ([.agg (aE 2 0 0 ([]:List UInt8) ([]:List MV) By Gp j6 ([]:List MV) 0 0 false 0 ([]:List UInt8) ([]:List MV))]:List MV)])) (
 some (0,[.list ([]:List MV)]))) λp1=>
 ca (sh p1.1 0)<|
 gC p1.2 λm50 aiN=>
 gL m50 λxs=>
 gN aiN<|
 some (0,(ef SF ST Me ek Has At bN eR iy yV yW bG bH dG fm dH df jy xs)))) (
 bd (
 bl (decide (Kind=2)) (
 bd (rH (.agg (cK yR yS yT eg lD yU dE dF cG)) (.agg [.i .i64 eI,.i .i64 dc,.s cA])) λbQ=>
 gT bQ λkl=>
 gC kl λm51 aiO=>
 gA m51 λcs5=>
 fI cs5 λwk wm Me1 aiQ Bz At1 ae0 ae1 NM=>
 gC aiO λm61 aiR=>
 gL m61 λx2=>
 gC aiR λm62 aiS=>
 gB m62 λx3=>
 gN aiS<|
 bd (
 bl x3 (
 bq ([.agg (aE 3 mC 0 ([]:List UInt8) ([]:List MV) 0 0 ([]:List UInt8) x2 0 0 false 0 ([]:List UInt8) ([]:List MV))]:List MV) λez=>
 ca (decide (ez *192<=2^46))<|
 some (0,[.list ([.agg (aE 3 mC 0 ([]:List UInt8) ([]:List MV) 0 0 ([]:List UInt8) x2 0 0 false 0 ([]:List UInt8) ([]:List MV))]:List MV)])) (
 some (0,[.list ([]:List MV)]))) λp3=>
 ca (sh p3.1 0)<|
 gC p3.2 λm63 aiT=>
 gL m63 λGX=>
 gN aiT<|
 bd (nJ (.agg (cL yV yW bG bH dG fm dH)) (.agg [.i .i64 eI,.i .i64 dc,.s cA])) λct=>
 gA ct λcs6=>
 fJ cs6 λZX ZY fh fj pq cq ae2=>
 some (0,(ef wk wm Me1 aiQ Bz At1 ae0 ae1 NM ZX ZY fh fj pq cq ae2 df jy GX))) (
 bd (
 bl (decide (Kind=3)) (
 bd (mq (.agg (cL yV yW bG bH dG fm dH)) (.i .i64 eQ) (.list Proof)) λgm=>
 gA gm λcs7=>
 fJ cs7 λSF3 ST3 dJ dK j8 qM ae3=>
 some (0,(av yR yS yT eg lD yU dE dF cG SF3 ST3 dJ dK j8 qM ae3 df jy))) (
 bd (
 bl (decide (Kind=4)) (
 bd (rI (av yR yS yT eg lD yU dE dF cG yV yW bG bH dG fm dH df jy) (.agg [.i .i64 F,.i .i64 T]) (.i .i64 mC) (.agg (bt uR ju jv eB cO cM))) λlz=>
 gW lz λx4 ls=>
 aQ ls λCP CQ CR o8 uy CS lh li iY CT CU eU eW lj o9 kp CV CW=>
 some (0,(av CP CQ CR o8 uy CS lh li iY CT CU eU eW lj o9 kp CV CW))) (
 bd (
 bl (decide (Kind=5)) (
 bd (td (.agg (cL yV yW bG bH dG fm dH)) (.i .i64 eQ) (.s Value)) λqK=>
 gA qK λcs8=>
 fJ cs8 λSF4 ST4 Vc Vd ae4 aiW ae5=>
 some (0,(av yR yS yT eg lD yU dE dF cG SF4 ST4 Vc Vd ae4 aiW ae5 df jy))) (
 some (0,(av yR yS yT eg lD yU dE dF cG yV yW bG bH dG fm dH df jy)))) λp6=>
 ca (sh p6.1 0)<|
 fN .i64 .i64 .i64 .i64 .i64 .i64 .i64 .i64 p6.2 λx5 x6 x7 x8 x9 qE rB r8 r9 tA xf zx wK Ki V2 U5 U6 U7=>
 some (0,(av x5 x6 x7 x8 x9 qE rB r8 r9 tA xf zx wK Ki V2 U5 U6 U7)))) λp5=>
 ca (sh p5.1 0)<|
 fN .i64 .i64 .i64 .i64 .i64 .i64 .i64 .i64 p5.2 λx23 V3 TN U8 YG ZR ZS ZT ZU ZV ZW x34 x35 x36 x37 x38 x39 x40=>
 some (0,(av x23 V3 TN U8 YG ZR ZS ZT ZU ZV ZW x34 x35 x36 x37 x38 x39 x40)))) λp4=>
 ca (sh p4.1 0)<|
 fN .i64 .i64 .i64 .i64 .i64 .i64 .i64 .i64 p4.2 λx41 x42 x43 x44 x45 x46 x47 x48 x49 x50 x51 x52 x53 x54 x55 x56 x57 x58=>
 some (0,(ef x41 x42 x43 x44 x45 x46 x47 x48 x49 x50 x51 x52 x53 x54 x55 x56 x57 x58 ([]:List MV))))) λp2=>
 ca (sh p2.1 0)<|
 jO .i64 .i64 .i64 .i64 .i64 .i64 .i64 .i64 p2.2 λx59 x60 x61 x62 x63 x64 x65 x66 x67 x68 x69 x70 x71 x72 x73 x74 x75 x76 KF=>
 some (0,(ef x59 x60 x61 x62 x63 x64 x65 x66 x67 x68 x69 x70 x71 x72 x73 x74 x75 x76 KF)))) λp=>
 bl (sh p.1 2) (
 jO .i64 .i64 .i64 .i64 .i64 .i64 .i64 .i64 p.2 λx77 x78 x79 x80 x81 x82 x83 x84 x85 x86 x87 x88 x89 x90 x91 x92 x93 x94 Ov=>
 bd (
 bl x91 (
 some [.b (!fm)]) (
 some [.b false])) λtV=>
 gC tV λam6 ae6=>
 gB am6 λx95=>
 gN ae6<|
 bd (
 bl x95 (
 bq Ov λlB=>
 bq ([.agg (aE 5 mC 0 x92 ([]:List MV) 0 0 ([]:List UInt8) ([]:List MV) 0 0 false 0 ([]:List UInt8) ([]:List MV))]:List MV) λxg=>
 ca (decide ((lB+xg) *192<=2^46))<|
 some (0,[.list (Ov++([.agg (aE 5 mC 0 x92 ([]:List MV) 0 0 ([]:List UInt8) ([]:List MV) 0 0 false 0 ([]:List UInt8) ([]:List MV))]:List MV))])) (
 some (0,[.list Ov]))) λp9=>
 ca (sh p9.1 0)<|
 gC p9.2 λam7 ae7=>
 gL am7 λR5=>
 gN ae7<|
 some (.ej [.agg (av x77 x78 x79 x80 x81 x82 x83 x84 x85 x86 x87 x88 x89 x90 x91 x92 x93 x94),.list R5])) (
 ca (sh p.1 0)<|
 jO .i64 .i64 .i64 .i64 .i64 .i64 .i64 .i64 p.2 λx96 x97 x98 x99 am8 am9 ana anb anc ane anf ang anh ani aiX ae8 anj ank U9=>
 bd (
 bl aiX (
 some [.b (!fm)]) (
 some [.b false])) λYJ=>
 gC YJ λanl ae9=>
 gB anl λanm=>
 gN ae9<|
 bd (
 bl anm (
 bq U9 λCJ=>
 bq ([.agg (aE 5 mC 0 ae8 ([]:List MV) 0 0 ([]:List UInt8) ([]:List MV) 0 0 false 0 ([]:List UInt8) ([]:List MV))]:List MV) λzh=>
 ca (decide ((CJ+zh) *192<=2^46))<|
 some (0,[.list (U9++([.agg (aE 5 mC 0 ae8 ([]:List MV) 0 0 ([]:List UInt8) ([]:List MV) 0 0 false 0 ([]:List UInt8) ([]:List MV))]:List MV))])) (
 some (0,[.list U9]))) λp10=>
 ca (sh p10.1 0)<|
 gC p10.2 λann afa=>
 gL ann λxs6=>
 gN afa<|
 some (.ej [.agg (av x96 x97 x98 x99 am8 am9 ana anb anc ane anf ang anh ani aiX ae8 anj ank),.list xs6]))
def Ju:GT:=bI 15 (RY yx) Eh
theorem Jv:SG Ju:=Bw Fv [] [] 118 [47,66,114] [] [] [(5,[0,1,2,3,4,5,6])] [(22,⟨[1,6,8,10,12],[48,67],[],[(0,[(107,.sc (.k .b))])],[48,67]⟩)] [(23,⟨[1,6,8],[],[],[(0,[(12,.sc (.own 48 62 true))])],[48,67]⟩),(9,⟨[1,6,8,10,13],[],[],[(0,[(12,.sc (.own 48 62 true))])],[48,67]⟩),(14,⟨[1,6,7,8,10,14],[],[],[(0,[(12,.sc (.own 67 62 true))])],[48,67]⟩),(21,⟨[1,7,8,10,12],[],[],[(0,[(6,.box [.k (.i .i64),.k (.i .i64),.k (.i .i64),.k (.i .i64),.k .b,.k (.i .i64),.k .s,.k .l,.k .l,.k (.i .i64),.k (.i .i64),.k .l,.k .l,.k .l,.k .b,.k .s,.k .l,.k (.i .i64)])])],[48,67]⟩),(19,⟨[1,4,7,8,10,12,19],[],[],[(0,[(6,.box [.k (.i .i64),.k (.i .i64),.k (.i .i64),.k (.i .i64),.k .b,.k (.i .i64),.k .s,.k .l,.k .l,.k (.i .i64),.k (.i .i64),.k .l,.k .l,.k .l,.k .b,.k .s,.k .l,.k (.i .i64)])])],[48,67]⟩),(17,⟨[1,4,7,8,10,12,19],[],[],[(0,[(6,.box [.k (.i .i64),.k (.i .i64),.k (.i .i64),.k (.i .i64),.k .b,.k (.i .i64),.k .s,.k .l,.k .l,.k (.i .i64),.k (.i .i64),.k .l,.k .l,.k .l,.k .b,.k .s,.k .l,.k (.i .i64)])])],[48,67]⟩),(11,⟨[1,4,7,8,10,19],[],[],[(0,[(6,.box [.k (.i .i64),.k (.i .i64),.k (.i .i64),.k (.i .i64),.k .b,.k (.i .i64),.k .s,.k .l,.k .l,.k (.i .i64),.k (.i .i64),.k .l,.k .l,.k .l,.k .b,.k .s,.k .l,.k (.i .i64)]),(12,.sc (.own 67 62 true))])],[48,67]⟩),(5,⟨[1,4,7,8,10,19],[],[],[(0,[(6,.box [.k (.i .i64),.k (.i .i64),.k (.i .i64),.k (.i .i64),.k .b,.k (.i .i64),.k .s,.k .l,.k .l,.k (.i .i64),.k (.i .i64),.k .l,.k .l,.k .l,.k .b,.k .s,.k .l,.k (.i .i64)]),(12,.sc (.own 48 62 true))]),(2,[(6,.box [.k (.i .i64),.k (.i .i64),.k (.i .i64),.k (.i .i64),.k .b,.k (.i .i64),.k .s,.k .l,.k .l,.k (.i .i64),.k (.i .i64),.k .l,.k .l,.k .l,.k .b,.k .s,.k .l,.k (.i .i64)]),(12,.sc (.own 48 62 true))])],[48,67]⟩)] [] [] Tryz.func15 (by kernel_rfl) (DL (λ_ _ _ _=>by kernel_rfl))
def rJ (a:MV):Option MV:=gA a λcs=>
 fI cs λSF ST Me View Has At Value Proof iy=>
 some (.agg (bt Me View Has At Value Proof))
def B7:GT:=bI 121 (qY rJ) Ju
theorem Ei:SG B7:=qG Jv [] 16 [] [] [] Tryz.func121 (by kernel_rfl) (eK (λ_=>by kernel_rfl))
def qu (a view:MV):Option MV:=gA a λcs=>
 fI cs λSF ST Me View Has At Value Proof iy=>
 gI .i64 view λlE=>
 bd (
 bl (decide (lE<=View)) (
 some [.b true]) (
 some [.b (decide ((100000:Int)<lE))])) λvs=>
 gC vs λm9 ui=>
 gB m9 λx=>
 gN ui<|
 bl x (
 some (.ej [.agg (cK SF ST Me View Has At Value Proof iy),.agg (bt 0 0 false 0 ([]:List UInt8) ([]:List MV)),.b false])) (
 bd (rJ (.agg (cK SF ST Me lE Has At Value Proof ([]:List MV)))) λrA=>
 gA rA λfF=>
 il fF λBy jo Bz ek bN eR=>
 some (.ej [.agg (cK SF ST Me lE Has At Value Proof ([]:List MV)),.agg (bt By jo Bz ek bN eR),.b true]))
def Am:GT:=bI 56 (iw qu) B7
theorem CX:SG Am:=Bw Ei [] [] 24 [] [] [] [(4,[0,1,2,3,4,5])] [(1,⟨[1,2,4,5],[],[],[(0,[(14,.sc (.k .b))])],[]⟩)] [] [] [] Tryz.func56 (by kernel_rfl) (bS (λ_ _=>by kernel_rfl))
def vO (x_ x_1 n view:MV):Option MV:=gA x_ λcs=>
 Dd cs λF T=>
 gI .i64 x_1 λap4=>
 gA n λfF=>
 aQ fF λyR yS yT eg lD yU dE dF cG yV yW bG bH dG fm dH df jy=>
 gI .i64 view λlE=>
 bd (qu (.agg (cK yR yS yT eg lD yU dE dF cG)) (.i .i64 lE)) λrA=>
 gT rA λvs=>
 gC vs λVa uk=>
 gA Va λqC=>
 fI qC λSF ST Me View Has At Value Proof iy=>
 gC uk λm30 D7=>
 gA m30 λxH=>
 il xH λBy jo Bz ek bN eR=>
 gC D7 λm37 Yz=>
 gB m37 λx=>
 gN Yz<|
 bl (!x) (
 some (.ej [.agg (av yR yS yT eg lD yU dE dF cG yV yW bG bH dG fm dH df jy),.list ([]:List MV)])) (
 both (
 some (.ej [.agg (av SF ST Me View Has At Value Proof iy yV yW bG bH dG fm dH ([]:List MV) jy),.list ([.agg (aE 4 0 0 ([]:List UInt8) ([]:List MV) 0 0 ([]:List UInt8) ([]:List MV) By jo Bz ek bN eR)]:List MV)])) (
 some (.ej [.agg (av SF ST Me View Has At Value Proof iy yV yW bG bH dG fm dH ([]:List MV) jy),.list ([.agg (aE 4 0 0 ([]:List UInt8) ([]:List MV) 0 0 ([]:List UInt8) ([]:List MV) By jo Bz ek bN eR)]:List MV)])))
def Gw:GT:=bI 18 (RY vO) Am
theorem G7:SG Gw:=Bw CX [] [] 31 [30] [28] [(2,[11])] [(5,[0,1,2,3,4,5,0,1,2,4,3,5,6,3,4])] [] [] [] [] Tryz.func18 (by kernel_rfl) (DL (λ_ _ _ _=>by kernel_rfl))
def yy (a a1 a2 a3:MV):Option MV:=gA a λcs=>
 Dd cs λF T=>
 gI .i64 a1 λmC=>
 gA a2 λfF=>
 aQ fF λyR yS yT eg lD yU dE dF cG yV yW bG bH dG fm dH df jy=>
 gS a3 λaiY=>
 bd (xp (.agg [.i .i64 F,.i .i64 T])) λrA=>
 gI .i64 rA λx=>
 bd (
 bd (pw (.agg [.i .i64 F,.i .i64 T]) (.i .i64 eg)) λbc=>
 gI .i64 bc λx1=>
 bl (!decide (x1=mC)) (
 some [.b true]) (
 some [.b (decide (eg<=jy))])) λvs=>
 gC vs λVa uk=>
 gB Va λx2=>
 gN uk<|
 bl x2 (
 some (.ej [.agg (av yR yS yT eg lD yU dE dF cG yV yW bG bH dG fm dH df jy),.list ([]:List MV)])) (
 bd (
 bl (decide ((0:Int)<eg)) (
 bq df λlen=>
 some [.b (decide ((len:Int)<x))]) (
 some [.b false])) λkl=>
 gC kl λm21 DW=>
 gB m21 λx3=>
 gN DW<|
 bl x3 (
 some (.ej [.agg (av yR yS yT eg lD yU dE dF cG yV yW bG bH dG fm dH df jy),.list ([]:List MV)])) (
 bd (
 bl (decide ((0:Int)<eg)) (
 bq df λez=>
 ca (decide ((0:Int)<=0/\(0:Int)<=x/\x<=(ez:Int)))<|
 bd (jX 6 72 [.list (IT (AI 0) (No (AI x) df))]) λbQ=>
 gF bQ λxs=>
 bd (qm (.agg [.i .i64 F,.i .i64 T]) (.list xs)) λct=>
 gT ct λtV=>
 gC tV λm22 YK=>
 gS m22 λx4=>
 gC YK λm23 PR=>
 gB m23 λx5=>
 gN PR<|
 bd (
 bl x5 (
 some (0,(aE 1 mC eg x4 xs 0 0 ([]:List UInt8) ([]:List MV) 0 0 false 0 ([]:List UInt8) ([]:List MV)))) (
 some (0,(aE 1 mC eg aiY xs 0 0 ([]:List UInt8) ([]:List MV) 0 0 false 0 ([]:List UInt8) ([]:List MV))))) λp1=>
 ca (sh p1.1 0)<|
 nE .i64 .i64 .i64 .i64 .i64 .i64 .i64 .i64 p1.2 λx6 x7 x8 x9 GX qE rB r8 r9 tA xf zx wK Ki V2=>
 some (0,(aE x6 x7 x8 x9 GX qE rB r8 r9 tA xf zx wK Ki V2))) (
 some (0,(aE 1 mC eg aiY ([]:List MV) 0 0 ([]:List UInt8) ([]:List MV) 0 0 false 0 ([]:List UInt8) ([]:List MV))))) λp=>
 ca (sh p.1 0)<|
 nE .i64 .i64 .i64 .i64 .i64 .i64 .i64 .i64 p.2 λU5 U6 U7 x23 KF V3 TN U8 YG ZR ZS ZT ZU ZV ZW=>
 both (
 some (.ej [.agg (av yR yS yT eg lD yU dE dF cG yV yW bG bH dG fm dH df U7),.list ([.agg (aE U5 U6 U7 x23 KF V3 TN U8 YG ZR ZS ZT ZU ZV ZW)]:List MV)])) (
 some (.ej [.agg (av yR yS yT eg lD yU dE dF cG yV yW bG bH dG fm dH df U7),.list ([.agg (aE U5 U6 U7 x23 KF V3 TN U8 YG ZR ZS ZT ZU ZV ZW)]:List MV)]))))
def Jw:GT:=bI 20 (RY yy) Gw
theorem Jx:SG Jw:=Bw G7 [] [] 75 [74] [73] [(12,[11])] [(13,[0,1,2,3,4,0,1,3,2,4,5,2,3])] [(5,⟨[4,6,8,10,11],[],[],[(0,[(37,.sc (.k .b))])],[57]⟩),(3,⟨[1,4,6,8,10,11],[],[],[(0,[(22,.sc (.k .b))])],[57]⟩)] [(11,⟨[6,8,12],[],[],[(0,[(11,.box [.k (.i .i64),.k (.i .i64),.k (.i .i64),.k .s,.own 57 60 true,.k (.i .i64),.k (.i .i64),.k .s,.k .l,.k (.i .i64),.k (.i .i64),.k .b,.k (.i .i64),.k .s,.k .l])])],[57]⟩),(8,⟨[4,6,8,10],[],[],[(0,[(11,.box [.k (.i .i64),.k (.i .i64),.k (.i .i64),.k .s,.own 57 60 true,.k (.i .i64),.k (.i .i64),.k .s,.k .l,.k (.i .i64),.k (.i .i64),.k .b,.k (.i .i64),.k .s,.k .l])])],[57]⟩)] [] [] Tryz.func20 (by kernel_rfl) (DL (λ_ _ _ _=>by kernel_rfl))
def qv (c i:MV):Option MV:=gA c λcs=>
 cZ cs λSF ST cQ Want N bg=>
 gI .i64 i λi1=>
 bd (
 bd (fR (.agg (ba SF ST cQ Want N bg)) (.i .i64 i1) (.b false)) λrA=>
 gB rA λx=>
 bl (!x) (
 some [.b true]) (
 idx N i1 λy=>
 gA y λfF=>
 aQ fF λyR yS yT eg lD yU dE dF cG yV yW bG bH dG fm dH df jy=>
 some [.b (!fm)])) λvs=>
 gC vs λm24 Jp=>
 gB m24 λx1=>
 gN Jp<|
 bl x1 (
 some (.ej [.s ([]:List UInt8),.b false])) (
 idx N i1 λy1=>
 gA y1 λqC=>
 aQ qC λCP CQ CR o8 uy CS lh li iY CT CU eU eW lj o9 kp CV CW=>
 some (.ej [.s kp,.b true]))
def Ej:GT:=bI 30 (iw qv) Jw
theorem Fw:SG Ej:=qG Jx [] 27 [(1,⟨[1,2],[],[],[(0,[(19,.sc (.k .b))])],[]⟩)] [] [] Tryz.func30 (by kernel_rfl) (bS (λ_ _=>by kernel_rfl))
def nK (s1 s2:MV):Option MV:=gL s1 λuu=>
 gL s2 λAg=>
 bq uu λlen=>
 bq Ag λez=>
 bl (!decide ((len:Int)=(ez:Int))) (
 some (.b false)) (
 bq uu λlB=>
 bd (Loop (λuW=>
 gC uW λm qe=>
 gI .i64 m λx=>
 gN qe<|
 bl (decide (x<(lB:Int))) (
 idx uu x λy=>
 gB y λx1=>
 idx Ag x λy1=>
 gB y1 λx2=>
 bl (!(decide (x1=x2))) (
 some (.inr (1,[.b false]))) (
 some (.inl [.i .i64 (eJ .i64 (x+1))]))) (
 some (.inr (2,[])))) [.i .i64 0]) λp=>
 bl (sh p.1 2) (
 gN p.2<|
 some (.b true)) (
 ca (sh p.1 1)<|
 gC p.2 λm1 n6=>
 gB m1 λx3=>
 gN n6<|
 some (.b x3)))
def xu:GT:=bI 82 (iw nK) Ej
theorem An:SG xu:=Bw Fw [] [] 26 [] [] [] [(6,[0,1,2,3,4,5,6,7,8])] [] [] [(4,⟨[0,1,12],[],[(13,.sc (.k (.i .i64)))],[(1,[(4,.sc (.k .b))]),(2,[])],[]⟩)] [] Tryz.func82 (by kernel_rfl) (bS (λ_ _=>by kernel_rfl))
def lk (s1 s2:MV):Option MV:=gL s1 λuu=>
 gL s2 λAg=>
 bq uu λlen=>
 bq Ag λez=>
 bl (!decide ((len:Int)=(ez:Int))) (
 some (.b false)) (
 bq uu λlB=>
 bd (Loop (λuW=>
 gC uW λm qe=>
 gI .i64 m λx=>
 gN qe<|
 bl (decide (x<(lB:Int))) (
 idx uu x λy=>
 gS y λx1=>
 idx Ag x λy1=>
 gS y1 λx2=>
 bl (!decide (x1=x2)) (
 some (.inr (1,[.b false]))) (
 some (.inl [.i .i64 (eJ .i64 (x+1))]))) (
 some (.inr (2,[])))) [.i .i64 0]) λp=>
 bl (sh p.1 2) (
 gN p.2<|
 some (.b true)) (
 ca (sh p.1 1)<|
 gC p.2 λm1 n6=>
 gB m1 λx3=>
 gN n6<|
 some (.b x3)))
def uA:GT:=bI 83 (iw lk) xu
theorem yz:SG uA:=Bw An [] [] 26 [] [] [] [(6,[0,1,2,3,4,5,6,7,8])] [] [] [(4,⟨[0,1,12],[],[(13,.sc (.k (.i .i64)))],[(1,[(4,.sc (.k .b))]),(2,[])],[]⟩)] [] Tryz.func83 (by kernel_rfl) (bS (λ_ _=>by kernel_rfl))
def rK (a b:MV):Option MV:=gA a λcs=>
 fI cs λSF ST Me View Has At Value Proof iy=>
 gA b λfF=>
 fI fF λwk wm Me1 ek Bz At1 bN eR NM=>
 bd (
 bl ((decide (SF=wk))&&(decide (ST=wm))) (
 bl (decide (Me=Me1)) (
 bl (decide (View=ek)) (
 bl (decide (Has=Bz)) (
 bl (decide (At=At1)) (
 some [.b (decide (Value=bN))]) (
 some [.b false])) (
 some [.b false])) (
 some [.b false])) (
 some [.b false])) (
 some [.b false])) λvs=>
 gC vs λKB na=>
 gB KB λone=>
 gN na<|
 bd (
 bl one (
 bd (dA (.list Proof) (.list eR)) λrA=>
 gB rA λx=>
 bl x (
 bd (dA (.list iy) (.list NM)) λbc=>
 gB bc λx1=>
 some [.b x1]) (
 some [.b false])) (
 some [.b false])) λkl=>
 gC kl λU4 sb=>
 gB U4 λx2=>
 gN sb<|
 some (.b x2)
def B8:GT:=bI 149 (iw rK) uA
theorem Ek:SG B8:=qG yz [] 63 [(2,⟨[2,3,5],[],[],[(0,[(4,.sc (.k .b))])],[]⟩),(1,⟨[2,3],[],[],[(0,[(5,.sc (.k .b))])],[]⟩)] [] [] Tryz.func149 (by kernel_rfl) (bS (λ_ _=>by kernel_rfl))
def te (a b:MV):Option MV:=gA a λcs=>
 fJ cs λSF ST fh fj pq cq Value=>
 gA b λfF=>
 fJ fF λwk wm dJ dK j8 qM bN=>
 bd (
 bl ((decide (SF=wk))&&(decide (ST=wm))) (
 bl (decide (cq=qM)) (
 some [.b (decide (Value=bN))]) (
 some [.b false])) (
 some [.b false])) λvs=>
 gC vs λIQ xj=>
 gB IQ λone=>
 gN xj<|
 bd (
 bl one (
 bd (dA (.list fh) (.list dJ)) λrA=>
 gB rA λx=>
 bl x (
 bd (dA (.list fj) (.list dK)) λbc=>
 gB bc λx1=>
 bl x1 (
 bd (dA (.list pq) (.list j8)) λbQ=>
 gB bQ λx2=>
 some [.b x2]) (
 some [.b false])) (
 some [.b false])) (
 some [.b false])) λkl=>
 gC kl λPF uj=>
 gB PF λx3=>
 gN uj<|
 some (.b x3)
def El:GT:=bI 150 (iw te) B8
theorem Fx:SG El:=qG Ek [] 53 [(2,⟨[2,3,5],[],[],[(0,[(4,.sc (.k .b))])],[]⟩),(1,⟨[2,3],[],[],[(0,[(5,.sc (.k .b))])],[]⟩)] [] [] Tryz.func150 (by kernel_rfl) (bS (λ_ _=>by kernel_rfl))
def rL (n x:MV):Option MV:=gA n λcs=>
 aQ cs λyR yS yT eg lD yU dE dF cG yV yW bG bH dG fm dH df jy=>
 gA x λfF=>
 aQ fF λCP CQ CR o8 uy CS lh li iY CT CU eU eW lj o9 kp CV CW=>
 bd (
 bd (rK (.agg (cK yR yS yT eg lD yU dE dF cG)) (.agg (cK CP CQ CR o8 uy CS lh li iY))) λrA=>
 gB rA λx1=>
 bl x1 (
 bd (te (.agg (cL yV yW bG bH dG fm dH)) (.agg (cL CT CU eU eW lj o9 kp))) λbc=>
 gB bc λx2=>
 bl x2 (
 bd (eh (.list df) (.list CV)) λbQ=>
 gB bQ λx3=>
 bl x3 (
 some [.b (decide (jy=CW))]) (
 some [.b false])) (
 some [.b false])) (
 some [.b false])) λvs=>
 gC vs λm36 PM=>
 gB m36 λx4=>
 gN PM<|
 some (.b x4)
def B9:GT:=bI 85 (iw rL) El
theorem Em:SG B9:=qG Fx [] 31 [(1,⟨[2,3],[],[],[(0,[(4,.sc (.k .b))])],[]⟩)] [] [] Tryz.func85 (by kernel_rfl) (bS (λ_ _=>by kernel_rfl))
def aR (sA:MV):Option MV:=gL sA λzy=>
 bq zy λlen=>
 bq zy λez=>
 ca (decide ((len:Int)=(zy.length:Int)/\(ez:Int)=(zy.length:Int)))<|
 some (.clip zy)
def sm:GT:=bI 151 (qY aR) B9
theorem wC:SG sm:=qG Em [] 9 [] [] [] Tryz.func151 (by kernel_rfl) (eK (λ_=>by kernel_rfl))
def tg (m x:MV):Option MV:=gA m λcs=>
 ch cs λKind eQ View Value dP eI dc cA Proof uR ju jv eB cO cM=>
 gA x λfF=>
 ch fF λJy TP ek bN xv En xw uB eR uC nh ni iZ fL fM=>
 bd (
 bl (decide (Kind=Jy)) (
 bl (decide (eQ=TP)) (
 bl (decide (View=ek)) (
 bl (decide (Value=bN)) (
 some [.b ((decide (eI=En))&&((decide (dc=xw))&&(decide (cA=uB))))]) (
 some [.b false])) (
 some [.b false])) (
 some [.b false])) (
 some [.b false])) λvs=>
 gC vs λm31 D7=>
 gB m31 λone=>
 gN D7<|
 bd (
 both (
 both (
 both (
 both (
 both (
 bl one (
 bd (aR (.list dP)) λrA=>
 Da rA λxs=>
 ca (iG 6 xs)<|
 bq xs λlen=>
 bq ([.agg (bt uR ju jv eB cO cM)]:List MV) λez=>
 ca (decide (0<ez/\(len+ez) *72<=2^46))<|
 bd (aR (.list xv)) λbc=>
 Da bc λGX=>
 ca (iG 6 GX)<|
 bq GX λlB=>
 bq ([.agg (bt uC nh ni iZ fL fM)]:List MV) λxg=>
 ca (decide (0<xg/\(lB+xg) *72<=2^46))<|
 bd (eh (.list (xs++([.agg (bt uR ju jv eB cO cM)]:List MV))) (.list (GX++([.agg (bt uC nh ni iZ fL fM)]:List MV)))) λbQ=>
 gB bQ λx1=>
 bl x1 (
 bd (dA (.list Proof) (.list eR)) λct=>
 gB ct λx2=>
 some [.b x2]) (
 some [.b false])) (
 some [.b false])) (
 bl one (
 bd (aR (.list dP)) λgm=>
 Da gm λKF=>
 ca (iG 6 KF)<|
 bq KF λCJ=>
 bq ([.agg (bt uR ju jv eB cO cM)]:List MV) λzh=>
 ca (decide (0<zh/\(CJ+zh) *72<=2^46))<|
 bd (aR (.list xv)) λlz=>
 Da lz λOv=>
 ca (iG 6 Ov)<|
 bq Ov λKC=>
 bq ([.agg (bt uC nh ni iZ fL fM)]:List MV) λabp=>
 ca (decide (0<abp/\(KC+abp) *72<=2^46))<|
 bd (eh (.list (KF++([.agg (bt uR ju jv eB cO cM)]:List MV))) (.list (Ov++([.agg (bt uC nh ni iZ fL fM)]:List MV)))) λqK=>
 gB qK λx3=>
 bl x3 (
 bd (dA (.list Proof) (.list eR)) λzw=>
 gB zw λx4=>
 some [.b x4]) (
 some [.b false])) (
 some [.b false]))) (
 bl one (
 bd (aR (.list dP)) λTG=>
 Da TG λR5=>
 ca (iG 6 R5)<|
 bq R5 λKD=>
 bq ([.agg (bt uR ju jv eB cO cM)]:List MV) λabq=>
 ca (decide (0<abq/\(KD+abq) *72<=2^46))<|
 bd (aR (.list xv)) λYl=>
 Da Yl λU9=>
 ca (iG 6 U9)<|
 bq U9 λaiZ=>
 bq ([.agg (bt uC nh ni iZ fL fM)]:List MV) λacW=>
 ca (decide (0<acW/\(aiZ+acW) *72<=2^46))<|
 bd (eh (.list (R5++([.agg (bt uR ju jv eB cO cM)]:List MV))) (.list (U9++([.agg (bt uC nh ni iZ fL fM)]:List MV)))) λanq=>
 gB anq λx5=>
 bl x5 (
 bd (dA (.list Proof) (.list eR)) λanr=>
 gB anr λx6=>
 some [.b x6]) (
 some [.b false])) (
 some [.b false]))) (
 bl one (
 bd (aR (.list dP)) λans=>
 Da ans λxs6=>
 ca (iG 6 xs6)<|
 bq xs6 λai0=>
 bq ([.agg (bt uR ju jv eB cO cM)]:List MV) λacX=>
 ca (decide (0<acX/\(ai0+acX) *72<=2^46))<|
 bd (aR (.list xv)) λant=>
 Da ant λxs7=>
 ca (iG 6 xs7)<|
 bq xs7 λai1=>
 bq ([.agg (bt uC nh ni iZ fL fM)]:List MV) λacY=>
 ca (decide (0<acY/\(ai1+acY) *72<=2^46))<|
 bd (eh (.list (xs6++([.agg (bt uR ju jv eB cO cM)]:List MV))) (.list (xs7++([.agg (bt uC nh ni iZ fL fM)]:List MV)))) λanu=>
 gB anu λx7=>
 bl x7 (
 bd (dA (.list Proof) (.list eR)) λanv=>
 gB anv λx8=>
 some [.b x8]) (
 some [.b false])) (
 some [.b false]))) (
 bl one (
 bd (aR (.list dP)) λanw=>
 Da anw λxs8=>
 ca (iG 6 xs8)<|
 bq xs8 λai2=>
 bq ([.agg (bt uR ju jv eB cO cM)]:List MV) λacZ=>
 ca (decide (0<acZ/\(ai2+acZ) *72<=2^46))<|
 bd (aR (.list xv)) λanz=>
 Da anz λxs9=>
 ca (iG 6 xs9)<|
 bq xs9 λai3=>
 bq ([.agg (bt uC nh ni iZ fL fM)]:List MV) λac0=>
 ca (decide (0<ac0/\(ai3+ac0) *72<=2^46))<|
 bd (eh (.list (xs8++([.agg (bt uR ju jv eB cO cM)]:List MV))) (.list (xs9++([.agg (bt uC nh ni iZ fL fM)]:List MV)))) λanB=>
 gB anB λx9=>
 bl x9 (
 bd (dA (.list Proof) (.list eR)) λanC=>
 gB anC λqE=>
 some [.b qE]) (
 some [.b false])) (
 some [.b false]))) (
 both (
 both (
 both (
 both (
 bl one (
 bd (aR (.list dP)) λanD=>
 Da anD λafb=>
 ca (iG 6 afb)<|
 bq afb λai4=>
 bq ([.agg (bt uR ju jv eB cO cM)]:List MV) λac1=>
 ca (decide (0<ac1/\(ai4+ac1) *72<=2^46))<|
 bd (aR (.list xv)) λanE=>
 Da anE λafc=>
 ca (iG 6 afc)<|
 bq afc λai5=>
 bq ([.agg (bt uC nh ni iZ fL fM)]:List MV) λac2=>
 ca (decide (0<ac2/\(ai5+ac2) *72<=2^46))<|
 bd (eh (.list (afb++([.agg (bt uR ju jv eB cO cM)]:List MV))) (.list (afc++([.agg (bt uC nh ni iZ fL fM)]:List MV)))) λanF=>
 gB anF λrB=>
 bl rB (
 bd (dA (.list Proof) (.list eR)) λanG=>
 gB anG λr8=>
 some [.b r8]) (
 some [.b false])) (
 some [.b false])) (
 bl one (
 bd (aR (.list dP)) λanH=>
 Da anH λafd=>
 ca (iG 6 afd)<|
 bq afd λai6=>
 bq ([.agg (bt uR ju jv eB cO cM)]:List MV) λac3=>
 ca (decide (0<ac3/\(ai6+ac3) *72<=2^46))<|
 bd (aR (.list xv)) λanI=>
 Da anI λafe=>
 ca (iG 6 afe)<|
 bq afe λai7=>
 bq ([.agg (bt uC nh ni iZ fL fM)]:List MV) λac4=>
 ca (decide (0<ac4/\(ai7+ac4) *72<=2^46))<|
 bd (eh (.list (afd++([.agg (bt uR ju jv eB cO cM)]:List MV))) (.list (afe++([.agg (bt uC nh ni iZ fL fM)]:List MV)))) λanJ=>
 gB anJ λr9=>
 bl r9 (
 bd (dA (.list Proof) (.list eR)) λanK=>
 gB anK λtA=>
 some [.b tA]) (
 some [.b false])) (
 some [.b false]))) (
 bl one (
 bd (aR (.list dP)) λanL=>
 Da anL λaff=>
 ca (iG 6 aff)<|
 bq aff λai8=>
 bq ([.agg (bt uR ju jv eB cO cM)]:List MV) λac5=>
 ca (decide (0<ac5/\(ai8+ac5) *72<=2^46))<|
 bd (aR (.list xv)) λanM=>
 Da anM λafg=>
 ca (iG 6 afg)<|
 bq afg λai9=>
 bq ([.agg (bt uC nh ni iZ fL fM)]:List MV) λac6=>
 ca (decide (0<ac6/\(ai9+ac6) *72<=2^46))<|
 bd (eh (.list (aff++([.agg (bt uR ju jv eB cO cM)]:List MV))) (.list (afg++([.agg (bt uC nh ni iZ fL fM)]:List MV)))) λanN=>
 gB anN λxf=>
 bl xf (
 bd (dA (.list Proof) (.list eR)) λanO=>
 gB anO λzx=>
 some [.b zx]) (
 some [.b false])) (
 some [.b false]))) (
 bl one (
 bd (aR (.list dP)) λanP=>
 Da anP λafh=>
 ca (iG 6 afh)<|
 bq afh λaja=>
 bq ([.agg (bt uR ju jv eB cO cM)]:List MV) λac7=>
 ca (decide (0<ac7/\(aja+ac7) *72<=2^46))<|
 bd (aR (.list xv)) λanQ=>
 Da anQ λafi=>
 ca (iG 6 afi)<|
 bq afi λajb=>
 bq ([.agg (bt uC nh ni iZ fL fM)]:List MV) λac8=>
 ca (decide (0<ac8/\(ajb+ac8) *72<=2^46))<|
 bd (eh (.list (afh++([.agg (bt uR ju jv eB cO cM)]:List MV))) (.list (afi++([.agg (bt uC nh ni iZ fL fM)]:List MV)))) λanR=>
 gB anR λwK=>
 bl wK (
 bd (dA (.list Proof) (.list eR)) λanS=>
 gB anS λKi=>
 some [.b Ki]) (
 some [.b false])) (
 some [.b false]))) (
 bl one (
 bd (aR (.list dP)) λanT=>
 Da anT λafj=>
 ca (iG 6 afj)<|
 bq afj λajc=>
 bq ([.agg (bt uR ju jv eB cO cM)]:List MV) λac9=>
 ca (decide (0<ac9/\(ajc+ac9) *72<=2^46))<|
 bd (aR (.list xv)) λanU=>
 Da anU λafk=>
 ca (iG 6 afk)<|
 bq afk λajd=>
 bq ([.agg (bt uC nh ni iZ fL fM)]:List MV) λada=>
 ca (decide (0<ada/\(ajd+ada) *72<=2^46))<|
 bd (eh (.list (afj++([.agg (bt uR ju jv eB cO cM)]:List MV))) (.list (afk++([.agg (bt uC nh ni iZ fL fM)]:List MV)))) λanV=>
 gB anV λV2=>
 bl V2 (
 bd (dA (.list Proof) (.list eR)) λanW=>
 gB anW λU5=>
 some [.b U5]) (
 some [.b false])) (
 some [.b false])))) λkl=>
 gC kl λm32 Jf=>
 gB m32 λU6=>
 gN Jf<|
 some (.b U6)
def yA:GT:=bI 87 (iw tg) sm
theorem Fy:SG yA:=Bw wC [] [] 64 [46,53] [49,52] [(1,[3])] [(2,[0,1,2,3,5,6,9,10,12,13,4,7,8,11,14,15,16,17,18,19,20,21,22,23,24,25,0,1,2,3,5,6,9,10,12,13,4,7,8,14,11,15,16,17,18,19,20,21,22,23,24,25,26,11,14,0,1,2,3,5,6,9,10,12,13,4,7,14,8,11,15,16,17,18,19,20,21,22,23,24,25,55,8,14,0,1,2,3,5,6,9,10,12,13,4,14,7,8,11,15,16,17,18,19,20,21,22,23,24,25,84,7,14,0,1,2,3,5,6,9,10,12,13,14,4,7,8,11,15,16,17,18,19,20,21,22,23,24,25,113,4,14,0,1,2,3,5,6,9,10,12,13,7,4,8,11,14,15,16,17,18,19,20,21,22,23,24,25,0,1,2,3,5,6,9,10,12,13,7,4,8,14,11,15,16,17,18,19,20,21,22,23,24,25,26,11,14,0,1,2,3,5,6,9,10,12,13,7,4,14,8,11,15,16,17,18,19,20,21,22,23,24,25,55,8,14,0,1,2,3,5,6,9,10,12,13,7,14,4,8,11,15,16,17,18,19,20,21,22,23,24,25,84,4,14,0,1,2,3,5,6,9,10,12,13,14,7,4,8,11,15,16,17,18,19,20,21,22,23,24,25,113,7,14,142,4,7])] [(2,⟨[2,3,5],[],[],[(0,[(4,.sc (.k .b))])],[47,54]⟩),(1,⟨[2,3],[],[],[(0,[(5,.sc (.k .b))])],[47,54]⟩)] [] [] [] Tryz.func87 (by kernel_rfl) (bS (λ_ _=>by kernel_rfl))
def dv:GT:=yA
theorem iz (x0 x1:MV):dv 85 [x0,x1]=rL x0 x1:=by kernel_rfl
def cH (s1 s2 eq:MV):Option MV:=gL s1 λuu=>
 gL s2 λAg=>
 gR eq λeq1=>
 bq uu λlen=>
 bq Ag λez=>
 bl (!decide ((len:Int)=(ez:Int))) (
 some (.b false)) (
 bq uu λlB=>
 bd (Loop (λuW=>
 gC uW λm qe=>
 gI .i64 m λx=>
 gN qe<|
 bl (decide (x<(lB:Int))) (
 idx uu x λy=>
 gA y λcs=>
 aQ cs λyR yS yT eg lD yU dE dF cG yV yW bG bH dG fm dH df jy=>
 idx Ag x λy1=>
 gA y1 λfF=>
 aQ fF λCP CQ CR o8 uy CS lh li iY CT CU eU eW lj o9 kp CV CW=>
 QJ eq1 λfn cap=>
 ca (!gv fn)<|
 bd (dv fn ([.agg (av yR yS yT eg lD yU dE dF cG yV yW bG bH dG fm dH df jy),.agg (av CP CQ CR o8 uy CS lh li iY CT CU eU eW lj o9 kp CV CW)]++cap)) λrA=>
 gB rA λx1=>
 bl (!x1) (
 some (.inr (1,[.b false]))) (
 some (.inl [.i .i64 (eJ .i64 (x+1))]))) (
 some (.inr (2,[])))) [.i .i64 0]) λp=>
 bl (sh p.1 2) (
 gN p.2<|
 some (.b true)) (
 ca (sh p.1 1)<|
 gC p.2 λm37 YA=>
 gB m37 λx2=>
 gN YA<|
 some (.b x2)))
def dI:GT:=bI 84 (Bv cH) yA
theorem kg:SG dI:=qG Fy [] 32 [] [] [(4,⟨[1,2,15,16],[],[(17,.sc (.k (.i .i64)))],[(1,[(6,.sc (.k .b))]),(2,[])],[]⟩)] Tryz.func84 (by kernel_rfl) (mj (λ_ _ _=>by kernel_rfl))
def dN:GT:=dI
theorem ja (x0 x1:MV):dN 87 [x0,x1]=tg x0 x1:=by kernel_rfl
def cT (s1 s2 eq:MV):Option MV:=gL s1 λuu=>
 gL s2 λAg=>
 gR eq λeq1=>
 bq uu λlen=>
 bq Ag λez=>
 bl (!decide ((len:Int)=(ez:Int))) (
 some (.b false)) (
 bq uu λlB=>
 bd (Loop (λuW=>
 gC uW λm qe=>
 gI .i64 m λx=>
 gN qe<|
 bl (decide (x<(lB:Int))) (
 idx uu x λy=>
 gA y λcs=>
 ch cs λKind eQ View Value dP eI dc cA Proof uR ju jv eB cO cM=>
 idx Ag x λy1=>
 gA y1 λfF=>
 ch fF λJy TP ek bN xv En xw uB eR uC nh ni iZ fL fM=>
 QJ eq1 λfn cap=>
 ca (!gv fn)<|
 bd (dN fn ([.agg (aE Kind eQ View Value dP eI dc cA Proof uR ju jv eB cO cM),.agg (aE Jy TP ek bN xv En xw uB eR uC nh ni iZ fL fM)]++cap)) λrA=>
 gB rA λx1=>
 bl (!x1) (
 some (.inr (1,[.b false]))) (
 some (.inl [.i .i64 (eJ .i64 (x+1))]))) (
 some (.inr (2,[])))) [.i .i64 0]) λp=>
 bl (sh p.1 2) (
 gN p.2<|
 some (.b true)) (
 ca (sh p.1 1)<|
 gC p.2 λm31 PT=>
 gB m31 λx2=>
 gN PT<|
 some (.b x2)))
def hU:GT:=bI 86 (Bv cT) dI
theorem ll:SG hU:=qG kg [] 32 [] [] [(4,⟨[1,2,15,16],[],[(17,.sc (.k (.i .i64)))],[(1,[(6,.sc (.k .b))]),(2,[])],[]⟩)] Tryz.func86 (by kernel_rfl) (mj (λ_ _ _=>by kernel_rfl))
def tD (a b:MV):Option MV:=gA a λcs=>
 cZ cs λSF ST cQ Want N bg=>
 gA b λfF=>
 cZ fF λwk wm CY uD N1 pz=>
 bd (
 bl (!((decide (SF=wk))&&(decide (ST=wm)))) (
 some [.b true]) (
 bd (nK (.list cQ) (.list CY)) λrA=>
 gB rA λx=>
 bl (!x) (
 some [.b true]) (
 bd (lk (.list Want) (.list uD)) λbc=>
 gB bc λx1=>
 some [.b (!x1)]))) λvs=>
 gC vs λDR lC=>
 gB DR λx2=>
 gN lC<|
 bl x2 (
 some (.b false)) (
 bd (
 bd (cH (.list N) (.list N1) (.func 85 [])) λbQ=>
 gB bQ λx3=>
 bl x3 (
 bd (cT (.list bg) (.list pz) (.func 87 [])) λct=>
 gB ct λx4=>
 some [.b x4]) (
 some [.b false])) λkl=>
 gC kl λKA uh=>
 gB KA λx5=>
 gN uh<|
 some (.b x5))
def Ma:GT:=bI 32 (iw tD) hU
theorem KN:SG Ma:=qG ll [] 38 [(3,⟨[2,3],[],[],[(0,[(4,.sc (.k .b))])],[]⟩),(1,⟨[2,3],[],[],[(0,[(25,.sc (.k .b))])],[]⟩)] [] [] Tryz.func32 (by kernel_rfl) (bS (λ_ _=>by kernel_rfl))
def gW2:GT:=aa2 72 Ma
theorem YN:dB Tryz.prog TM gW2:=KN.alt Yv
def qw (c:List MV)(lA:MV):Option MV:=gL lA λL6=>
 cZ c λSF ST cQ Want N bg=>
 bq L6 λlen=>
 bd (Loop (λNI=>
 gC NI λm6 CI=>
 gI .i64 m6 λx=>
 cZ CI λx1 x2 x3 x4 xs x5=>
 bl (decide (x<(len:Int))) (
 idx L6 x λy=>
 gA y λcs=>
 ch cs λKind eQ View Value dP eI dc cA Proof uR ju jv eB cO cM=>
 bq x5 λez=>
 bd (
 bl (decide ((ez:Int)<400)) (
 both (
 bd (eT (.list x5)) λrA=>
 Da rA λGX=>
 ca (iG 15 GX)<|
 bq GX λlB=>
 bq ([.agg (aE Kind eQ View Value dP eI dc cA Proof uR ju jv eB cO cM)]:List MV) λxg=>
 ca (decide (0<xg/\(lB+xg) *192<=2^46))<|
 some (0,(ba x1 x2 x3 x4 xs (GX++([.agg (aE Kind eQ View Value dP eI dc cA Proof uR ju jv eB cO cM)]:List MV))))) (
 bd (eT (.list x5)) λbc=>
 Da bc λKF=>
 ca (iG 15 KF)<|
 bq KF λCJ=>
 bq ([.agg (aE Kind eQ View Value dP eI dc cA Proof uR ju jv eB cO cM)]:List MV) λzh=>
 ca (decide (0<zh/\(CJ+zh) *192<=2^46))<|
 some (0,(ba x1 x2 x3 x4 xs (KF++([.agg (aE Kind eQ View Value dP eI dc cA Proof uR ju jv eB cO cM)]:List MV)))))) (
 some (0,(ba x1 x2 x3 x4 xs x5)))) λp1=>
 ca (sh p1.1 0)<|
 lf .i64 .i64 p1.2 λx6 x7 x8 x9 Ov qE=>
 some (.inl [.i .i64 (eJ .i64 (x+1)),.i .i64 x6,.i .i64 x7,.list x8,.list x9,.list Ov,.list qE])) (
 some (.inr (2,(ba x1 x2 x3 x4 xs x5))))) [.i .i64 0,.i .i64 SF,.i .i64 ST,.list cQ,.list Want,.list N,.list bg]) λp=>
 ca (sh p.1 2)<|
 lf .i64 .i64 p.2 λrB r8 r9 tA R5 xf=>
 some (.fZ (.ej []) (ba rB r8 r9 tA R5 xf))
def Ao:GT:=bI 72 (cl2 qw) gW2
theorem CZ:dB Tryz.prog TM Ao:=Yw YN 0 acU [] [(0,1000000)] 30 [25,26] [] [] [(4,[0,1,2,3,4,6,5,7,8,9,10,11,0,1,2,3,4,6,7,5,8,9,10,11,12,5,7])] [] [(4,⟨[0,5,6,7,8],[],[],[(0,[(1000000,.box [.k (.i .i64),.k (.i .i64),.k .l,.k .l,.own 2000004 40 false,.k .l])])],[]⟩)] [(1,⟨[0,6,7],[],[(8,.sc (.k (.i .i64))),(1000000,.box [.k (.i .i64),.k (.i .i64),.k .l,.k .l,.own 2000004 40 false,.k .l])],[(2,[(1000000,.box [.k (.i .i64),.k (.i .i64),.k .l,.k .l,.own 2000004 40 false,.k .l])])],[]⟩)] [] Tryz.func72 (by kernel_rfl) (by kernel_rfl) (R3 λ_ _=>by kernel_rfl)
def lS (c:List MV)(i:MV)(n:MV)(said:MV):Option MV:=gI .i64 i λi1=>
 gA n λcs=>
 aQ cs λyR yS yT eg lD yU dE dF cG yV yW bG bH dG fm dH df jy=>
 gL said λaje=>
 cZ c λSF ST cQ Want N bg=>
 idx N i1 λy=>
 gA y λfF=>
 aQ fF λCP CQ CR o8 uy CS lh li iY CT CU eU eW lj o9 kp CV CW=>
 bd (qw (ba SF ST cQ Want (N.set (AI i1) (.agg (av yR yS yT eg lD yU dE dF cG yV yW bG bH dG fm dH df jy))) bg) (.list aje)) λrA=>
 gW rA λx ls=>
 cZ ls λwk wm CY uD N1 pz=>
 some (.fZ (.ej []) (ba wk wm CY uD N1 pz))
def Ca:GT:=bI 141 (cl4 lS) Ao
theorem Eo:dB Tryz.prog TM Ca:=Yw CZ 0 Gl [] [(0,1000000)] 18 [] [] [] [(1,[0,1,2,3,4,5,6,7])] [] [] [] [] Tryz.func141 (by kernel_rfl) (by kernel_rfl) (Yy λ_ _ _ _=>by kernel_rfl)
def mr (c:List MV)(i:MV)(m:MV):Option MV:=gI .i64 i λi1=>
 gA m λcs=>
 ch cs λKind eQ View Value dP eI dc cA Proof uR ju jv eB cO cM=>
 cZ c λSF ST cQ Want N bg=>
 idx N i1 λy=>
 gA y λfF=>
 aQ fF λyR yS yT eg lD yU dE dF cG yV yW bG bH dG fm dH df jy=>
 bd (yx (.agg [.i .i64 SF,.i .i64 ST]) (.i .i64 i1) (.agg (av yR yS yT eg lD yU dE dF cG yV yW bG bH dG fm dH df jy)) (.agg (aE Kind eQ View Value dP eI dc cA Proof uR ju jv eB cO cM))) λrA=>
 gT rA λvs=>
 gC vs λm40 PN=>
 gA m40 λqC=>
 aQ qC λCP CQ CR o8 uy CS lh li iY CT CU eU eW lj o9 kp CV CW=>
 gC PN λm59 YO=>
 gL m59 λx=>
 gN YO<|
 bd (lS (ba SF ST cQ Want N bg) (.i .i64 i1) (.agg (av CP CQ CR o8 uy CS lh li iY CT CU eU eW lj o9 kp CV CW)) (.list x)) λbc=>
 gW bc λx1 ls=>
 cZ ls λwk wm CY uD N1 pz=>
 some (.fZ (.ej []) (ba wk wm CY uD N1 pz))
def vP:GT:=bI 75 (cl3 mr) Ca
theorem zm:dB Tryz.prog TM vP:=Yw Eo 0 Gl [] [(0,1000000)] 30 [] [] [] [(1,[0,1,2,3,4,5,6,7,8,9,10,11,12,13,14,15,16,17,18,19])] [] [] [] [] Tryz.func75 (by kernel_rfl) (by kernel_rfl) (Yx λ_ _ _=>by kernel_rfl)
def oT (c:List MV)(i:MV)(view:MV):Option MV:=gI .i64 i λi1=>
 gI .i64 view λlE=>
 cZ c λSF ST cQ Want N bg=>
 idx N i1 λy=>
 gA y λcs=>
 aQ cs λyR yS yT eg lD yU dE dF cG yV yW bG bH dG fm dH df jy=>
 bd (vO (.agg [.i .i64 SF,.i .i64 ST]) (.i .i64 i1) (.agg (av yR yS yT eg lD yU dE dF cG yV yW bG bH dG fm dH df jy)) (.i .i64 lE)) λrA=>
 gT rA λvs=>
 gC vs λm24 Jp=>
 gA m24 λfF=>
 aQ fF λCP CQ CR o8 uy CS lh li iY CT CU eU eW lj o9 kp CV CW=>
 gC Jp λm43 PO=>
 gL m43 λx=>
 gN PO<|
 bd (lS (ba SF ST cQ Want N bg) (.i .i64 i1) (.agg (av CP CQ CR o8 uy CS lh li iY CT CU eU eW lj o9 kp CV CW)) (.list x)) λbc=>
 gW bc λx1 ls=>
 cZ ls λwk wm CY uD N1 pz=>
 some (.fZ (.ej []) (ba wk wm CY uD N1 pz))
def yZ:GT:=bI 76 (cl3 oT) vP
theorem BC:dB Tryz.prog TM yZ:=Yw zm 0 Gl [] [(0,1000000)] 30 [] [] [] [(0,[0,1,2,3,4,5,6,7,8,9,10,11,12,13,14,15,16,17,18,19])] [] [] [] [] Tryz.func76 (by kernel_rfl) (by kernel_rfl) (Yx λ_ _ _=>by kernel_rfl)
def qx (c:List MV)(i:MV):Option MV:=gI .i64 i λi1=>
 cZ c λSF ST cQ Want N bg=>
 idx N i1 λy=>
 gA y λcs=>
 aQ cs λyR yS yT eg lD yU dE dF cG yV yW bG bH dG fm dH df jy=>
 idx Want i1 λy1=>
 gS y1 λx=>
 bd (yy (.agg [.i .i64 SF,.i .i64 ST]) (.i .i64 i1) (.agg (av yR yS yT eg lD yU dE dF cG yV yW bG bH dG fm dH df jy)) (.s x)) λrA=>
 gT rA λvs=>
 gC vs λm24 Jp=>
 gA m24 λfF=>
 aQ fF λCP CQ CR o8 uy CS lh li iY CT CU eU eW lj o9 kp CV CW=>
 gC Jp λm43 PO=>
 gL m43 λx1=>
 gN PO<|
 bd (lS (ba SF ST cQ Want N bg) (.i .i64 i1) (.agg (av CP CQ CR o8 uy CS lh li iY CT CU eU eW lj o9 kp CV CW)) (.list x1)) λbc=>
 gW bc λx2 ls=>
 cZ ls λwk wm CY uD N1 pz=>
 some (.fZ (.ej []) (ba wk wm CY uD N1 pz))
def Ap:GT:=bI 77 (cl2 qx) yZ
theorem C0:dB Tryz.prog TM Ap:=Yw BC 0 Gl [] [(0,1000000)] 34 [] [] [] [(0,[0,1,2,3,4,5,6,7,8,9,10,11,12,13,14,15,16,17,18,19,20,21,22,23,24,25])] [] [] [] [] Tryz.func77 (by kernel_rfl) (by kernel_rfl) (R3 λ_ _=>by kernel_rfl)
def gW1:GT:=aa2 72 Ap
theorem YP:SG gW1:=C0.alt aeU
def rM (c:List MV)(lA:MV):Option MV:=gL lA λL6=>
 cZ c λSF ST cQ Want N bg=>
 bq L6 λlen=>
 bd (Loop (λNI=>
 gC NI λm6 CI=>
 gI .i64 m6 λx=>
 cZ CI λx1 x2 x3 x4 x5 x6=>
 bl (decide (x<(len:Int))) (
 idx L6 x λy=>
 gA y λcs=>
 ch cs λKind eQ View Value dP eI dc cA Proof uR ju jv eB cO cM=>
 bq x6 λez=>
 bd (
 bl (decide ((ez:Int)<400)) (
 both (
 bd (eT (.list x6)) λrA=>
 Da rA λxs=>
 ca (iG 15 xs)<|
 bq xs λlB=>
 bq ([.agg (aE Kind eQ View Value dP eI dc cA Proof uR ju jv eB cO cM)]:List MV) λxg=>
 ca (decide (0<xg/\(lB+xg) *192<=2^46))<|
 some (0,(ba x1 x2 x3 x4 x5 (xs++([.agg (aE Kind eQ View Value dP eI dc cA Proof uR ju jv eB cO cM)]:List MV))))) (
 bd (eT (.list x6)) λbc=>
 Da bc λGX=>
 ca (iG 15 GX)<|
 bq GX λCJ=>
 bq ([.agg (aE Kind eQ View Value dP eI dc cA Proof uR ju jv eB cO cM)]:List MV) λzh=>
 ca (decide (0<zh/\(CJ+zh) *192<=2^46))<|
 some (0,(ba x1 x2 x3 x4 x5 (GX++([.agg (aE Kind eQ View Value dP eI dc cA Proof uR ju jv eB cO cM)]:List MV)))))) (
 some (0,(ba x1 x2 x3 x4 x5 x6)))) λp1=>
 ca (sh p1.1 0)<|
 lf .i64 .i64 p1.2 λx7 x8 x9 qE rB r8=>
 some (.inl [.i .i64 (eJ .i64 (x+1)),.i .i64 x7,.i .i64 x8,.list x9,.list qE,.list rB,.list r8])) (
 some (.inr (2,(ba x1 x2 x3 x4 x5 x6))))) [.i .i64 0,.i .i64 SF,.i .i64 ST,.list cQ,.list Want,.list N,.list bg]) λp=>
 ca (sh p.1 2)<|
 lf .i64 .i64 p.2 λr9 tA xf zx wK Ki=>
 some (.fZ (.ej []) (ba r9 tA xf zx wK Ki))
def Cb:GT:=bI 72 (cl2 rM) gW1
theorem Ep:SG Cb:=fnC YP 0 acT [] [(0,1000000)] 30 [25,26] [] [] [(4,[0,1,2,3,4,6,5,7,8,9,10,11,0,1,2,3,4,6,7,5,8,9,10,11,12,5,7])] [] [(4,⟨[0,5,6,7,8],[],[],[(0,[(1000000,.box [.k (.i .i64),.k (.i .i64),.k .l,.k .l,.k .l,.k .l])])],[]⟩)] [(1,⟨[0,6,7],[],[(8,.sc (.k (.i .i64))),(1000000,.box [.k (.i .i64),.k (.i .i64),.k .l,.k .l,.k .l,.k .l])],[(2,[(1000000,.box [.k (.i .i64),.k (.i .i64),.k .l,.k .l,.k .l,.k .l])])],[]⟩)] [] Tryz.func72 (by kernel_rfl) (by kernel_rfl) (R3 λ_ _=>by kernel_rfl)
def rf (a a1:MV):Option MV:=gA a λcs=>
 cZ cs λSF ST cQ Want N bg=>
 gA a1 λfF=>
 n5 fF λKind I J LX LY LZ CK DT Bg tB o4 CL U3 L0 L1 Fl ym yn=>
 bl (decide (Kind=3)) (
 bd (uv (.agg (ba SF ST cQ Want N bg)) (.agg (aE LX LY LZ CK DT Bg tB o4 CL U3 L0 L1 Fl ym yn))) λrA=>
 gB rA λx=>
 bd (
 bl x (
 bd (rM (ba SF ST cQ Want N bg) (.list ([.agg (aE LX LY LZ CK DT Bg tB o4 CL U3 L0 L1 Fl ym yn)]:List MV))) λbc=>
 gW bc λx1 ls=>
 cZ ls λwk wm CY uD N1 pz=>
 some (0,(ba wk wm CY uD N1 pz))) (
 some (0,(ba SF ST cQ Want N bg)))) λp=>
 ca (sh p.1 0)<|
 lf .i64 .i64 p.2 λx2 x3 x4 x5 x6 x7=>
 some (.agg (ba x2 x3 x4 x5 x6 x7))) (
 bd (fR (.agg (ba SF ST cQ Want N bg)) (.i .i64 I) (.b false)) λbQ=>
 gB bQ λx8=>
 bl (!x8) (
 some (.agg (ba SF ST cQ Want N bg))) (
 bd (jX 18 256 [.list N]) λct=>
 gF ct λxs=>
 bd (
 bl (decide (Kind=0)) (
 bd (
 bl (decide ((0:Int)<=J)) (
 bq bg λlen=>
 some [.b (decide (J<(len:Int)))]) (
 some [.b false])) λvs=>
 gC vs λm36 PM=>
 gB m36 λx9=>
 gN PM<|
 bd (
 bl x9 (
 idx bg J λy=>
 gA y λqC=>
 ch qC λJy eQ View Value dP eI dc cA Proof uR ju jv eB cO cM=>
 bd (mr (ba SF ST cQ Want xs bg) (.i .i64 I) (.agg (aE Jy eQ View Value dP eI dc cA Proof uR ju jv eB cO cM))) λgm=>
 gW gm λqE ls1=>
 cZ ls1 λZX ZY PV Gx N2 YQ=>
 some (0,(ba ZX ZY PV Gx N2 YQ))) (
 some (0,(ba SF ST cQ Want xs bg)))) λp2=>
 ca (sh p2.1 0)<|
 lf .i64 .i64 p2.2 λrB r8 r9 tA GX xf=>
 some (0,(ba rB r8 r9 tA GX xf))) (
 bd (
 bl (decide (Kind=1)) (
 idx xs I λy1=>
 gA y1 λxH=>
 aQ xH λyR yS yT eg lD yU dE dF cG yV yW bG bH dG fm dH df jy=>
 bd (oT (ba SF ST cQ Want xs bg) (.i .i64 I) (.i .i64 (eJ .i64 (eg+1)))) λlz=>
 gW lz λzx ls2=>
 cZ ls2 λSF3 ST3 afl YR N3 YS=>
 some (0,(ba SF3 ST3 afl YR N3 YS))) (
 bd (
 bl (decide (Kind=2)) (
 bd (qx (ba SF ST cQ Want xs bg) (.i .i64 I)) λqK=>
 gW qK λwK ls3=>
 cZ ls3 λSF4 ST4 anX ajf N4 ajg=>
 some (0,(ba SF4 ST4 anX ajf N4 ajg))) (
 bd (
 bl (decide (Kind=4)) (
 idx xs I λy2=>
 gA y2 λcs4=>
 aQ cs4 λCP CQ CR o8 uy CS lh li iY CT CU eU eW lj o9 kp CV CW=>
 bd (s8 (.agg [.i .i64 SF,.i .i64 ST]) (.i .i64 I) (.agg (av CP CQ CR o8 uy CS lh li iY CT CU eU eW lj o9 kp CV CW))) λzw=>
 gA zw λcs5=>
 aQ cs5 λanY anZ an0 afm ajh an1 abw abx YT an2 an3 R7 R8 aby afn abz an4 an5=>
 idx xs I λy3=>
 gA y3 λcs6=>
 aQ cs6 λatz atA atC an6 ap7 atD akr aks aji atE atF afo afp akt an7 aku atG atH=>
 some (0,(ba SF ST cQ Want (xs.set (AI I) (.agg (av anY anZ an0 afm ajh an1 abw abx YT an2 an3 R7 R8 aby afn abz an4 an5))) bg))) (
 some (0,(ba SF ST cQ Want xs bg)))) λp5=>
 ca (sh p5.1 0)<|
 lf .i64 .i64 p5.2 λKi V2 U5 U6 KF U7=>
 some (0,(ba Ki V2 U5 U6 KF U7)))) λp4=>
 ca (sh p4.1 0)<|
 lf .i64 .i64 p4.2 λx23 V3 TN U8 Ov YG=>
 some (0,(ba x23 V3 TN U8 Ov YG)))) λp3=>
 ca (sh p3.1 0)<|
 lf .i64 .i64 p3.2 λZR ZS ZT ZU R5 ZV=>
 some (0,(ba ZR ZS ZT ZU R5 ZV)))) λp1=>
 ca (sh p1.1 0)<|
 lf .i64 .i64 p1.2 λZW x34 x35 x36 U9 x37=>
 some (.agg (ba ZW x34 x35 x36 U9 x37))))
def Mb:GT:=bI 29 (iw rf) Cb
theorem KO:SG Mb:=Bw Ep [] [] 96 [17] [] [] [(12,[0,1,2,3,4,5,6,7,8,9]),(14,[0,1,2,3,4,5,6,7,8,9,10,11,12]),(18,[0,1,2,3,4,5,6,7,8,9,10,11,12,13,14,15,16])] [(11,⟨[2,3,4],[29],[],[(0,[(45,.sc (.k .b)),(5,.pt 2 0)])],[]⟩)] [(12,⟨[3,4],[],[],[(0,[(2,.box [.k (.i .i64),.k (.i .i64),.k .l,.k .l,.own 29 40 false,.k .l]),(5,.pt 2 0)])],[]⟩),(18,⟨[3,4],[],[],[(0,[(2,.box [.k (.i .i64),.k (.i .i64),.k .l,.k .l,.own 29 40 false,.k .l]),(5,.pt 2 0)])],[2000004]⟩),(16,⟨[3,4,32],[],[],[(0,[(2,.box [.k (.i .i64),.k (.i .i64),.k .l,.k .l,.own 29 40 false,.k .l]),(5,.pt 2 0)])],[]⟩),(14,⟨[3,4,32],[],[],[(0,[(2,.box [.k (.i .i64),.k (.i .i64),.k .l,.k .l,.own 29 40 false,.k .l]),(5,.pt 2 0)])],[]⟩),(11,⟨[3,4,32],[],[],[(0,[(2,.box [.k (.i .i64),.k (.i .i64),.k .l,.k .l,.own 29 40 false,.k .l]),(5,.pt 2 0)])],[]⟩),(4,⟨[3,4,5],[],[],[(0,[(2,.box [.k (.i .i64),.k (.i .i64),.k .l,.k .l,.k .l,.k .l])])],[]⟩)] [] [] Tryz.func29 (by kernel_rfl) (bS (λ_ _=>by kernel_rfl))
def tE:Option MV:=ca (decide ((0:Int)<=4/\(4:Int)=4/\(4:Int) *1<=2^46))<| bd (Ae (.agg [.i .i64 1,.i .i64 0]) (.list (aaa (AI 4) (.b false))) (.list ([.s ([97]:List UInt8),.s ([98]:List UInt8),.s ([99]:List UInt8),.s ([100]:List UInt8)]:List MV))) λrA=>
 gT rA λvs=>
 gC vs λm uW=>
 gA m λcs=>
 cZ cs λSF ST cQ Want N bg=>
 gC uW λm7 CI=>
 gI .i64 m7 λx=>
 gN CI<|
 bd (rf (.agg (ba SF ST cQ Want N bg)) (.agg [.i .i64 2,.i .i64 0,.i .i64 0,.i .i64 0,.i .i64 0,.i .i64 0,.s ([]:List UInt8),.list ([]:List MV),.i .i64 0,.i .i64 0,.s ([]:List UInt8),.list ([]:List MV),.i .i64 0,.i .i64 0,.b false,.i .i64 0,.s ([]:List UInt8),.list ([]:List MV)])) λbc=>
 gA bc λfF=>
 cZ fF λwk wm CY uD N1 pz=>
 bd (Loop (λxj=>
 IU xj λc c1 c2 c3 c4 c5 i=>
 bl (decide (i<4)) (
 bd (rf (.agg (ba c c1 c2 c3 c4 c5)) (.agg [.i .i64 0,.i .i64 i,.i .i64 0,.i .i64 0,.i .i64 0,.i .i64 0,.s ([]:List UInt8),.list ([]:List MV),.i .i64 0,.i .i64 0,.s ([]:List UInt8),.list ([]:List MV),.i .i64 0,.i .i64 0,.b false,.i .i64 0,.s ([]:List UInt8),.list ([]:List MV)])) λbQ=>
 gA bQ λqC=>
 cZ qC λZX ZY PV Gx N2 YQ=>
 some (.inl (qd ZX ZY PV Gx N2 YQ (eJ .i64 (i+1))))) (
 some (.inr (2,(ba c c1 c2 c3 c4 c5))))) (qd wk wm CY uD N1 pz 0)) λp=>
 ca (sh p.1 2)<|
 lf .i64 .i64 p.2 λc6 c7 c8 c9 c10 c11=>
 bd (Loop (λYI=>
 IU YI λc12 c13 c14 c15 c16 c17 i1=>
 bl (decide (i1<5)) (
 bd (rf (.agg (ba c12 c13 c14 c15 c16 c17)) (.agg [.i .i64 0,.i .i64 2,.i .i64 i1,.i .i64 0,.i .i64 0,.i .i64 0,.s ([]:List UInt8),.list ([]:List MV),.i .i64 0,.i .i64 0,.s ([]:List UInt8),.list ([]:List MV),.i .i64 0,.i .i64 0,.b false,.i .i64 0,.s ([]:List UInt8),.list ([]:List MV)])) λct=>
 gA ct λxH=>
 cZ xH λSF3 ST3 afl YR N3 YS=>
 some (.inl (qd SF3 ST3 afl YR N3 YS (eJ .i64 (i1+1))))) (
 some (.inr (4,(ba c12 c13 c14 c15 c16 c17))))) (qd c6 c7 c8 c9 c10 c11 1)) λp1=>
 ca (sh p1.1 4)<|
 lf .i64 .i64 p1.2 λc18 c19 c20 c21 c22 c23=>
 bd (qv (.agg (ba c18 c19 c20 c21 c22 c23)) (.i .i64 2)) λgm=>
 gT gm λkl=>
 gC kl λm52 YU=>
 gS m52 λx1=>
 gC YU λm53 YV=>
 gB m53 λx2=>
 gN YV<|
 bd (qv (.agg (ba c18 c19 c20 c21 c22 c23)) (.i .i64 1)) λlz=>
 gT lz λtV=>
 gC tV λm54 YW=>
 gS m54 λx3=>
 gC YW λm55 ajj=>
 gB m55 λx4=>
 gN ajj<|
 bd (
 bl (decide (x=0)) (
 bl x2 (
 bl (decide (x1=([97]:List UInt8))) (
 some [.b (!x4)]) (
 some [.b false])) (
 some [.b false])) (
 some [.b false])) λYJ=>
 gC YJ λm56 YO=>
 gB m56 λx5=>
 gN YO<|
 some (.b x5)
def Mc:GT:=bI 9 (aeE tE) Mb
theorem KP:SG Mc:=Bw KO [] [] 58 [12] [] [] [] [(13,⟨[2,5,6,8],[],[],[(0,[(0,.sc (.k .b))])],[11]⟩)] [] [(8,⟨[2],[],[(1,.box [.k (.i .i64),.k (.i .i64),.k .l,.k .l,.k .l,.k .l]),(4,.sc (.k (.i .i64)))],[(4,[(1,.box [.k (.i .i64),.k (.i .i64),.k .l,.k .l,.k .l,.k .l])])],[11]⟩),(4,⟨[2],[],[(1,.box [.k (.i .i64),.k (.i .i64),.k .l,.k .l,.k .l,.k .l]),(3,.sc (.k (.i .i64)))],[(2,[(1,.box [.k (.i .i64),.k (.i .i64),.k .l,.k .l,.k .l,.k .l])])],[11]⟩)] [] Tryz.func9 (by kernel_rfl) (abi (by kernel_rfl))
def Aq (a a1:MV):Option MV:=gA a λcs=>
 gC cs λm uW=>
 gI .i64 m λSF=>
 gC uW λm1 qe=>
 gI .i64 m1 λST=>
 gC qe λm2 n6=>
 gL m2 λcQ=>
 gC n6 λm3 CG=>
 gL m3 λWant=>
 gN CG<|
 gL a1 λmC=>
 bd (Bf (.agg [.i .i64 SF,.i .i64 ST,.list cQ,.list Want]) (.list mC)) λrA=>
 gB rA λx=>
 bl (!x) (
 bd (tE) λbc=>
 gB bc λx1=>
 some (.b x1)) (
 bd (Ae (.agg [.i .i64 SF,.i .i64 ST]) (.list cQ) (.list Want)) λbQ=>
 gT bQ λvs=>
 gC vs λm4 CH=>
 gA m4 λfF=>
 cZ fF λwk wm CY uD N bg=>
 gC CH λKz xi=>
 gI .i64 Kz λx2=>
 gN xi<|
 bl (!decide (x2=0)) (
 bd (tE) λct=>
 gB ct λx3=>
 some (.b x3)) (
 bd (Loop (λlC=>
 IU lC λx4 x5 x6 x7 x8 x9 qE=>
 bq mC λlen=>
 bl (decide (qE<(len:Int))) (
 idx mC qE λy=>
 gA y λqC=>
 n5 qC λKind I J LX LY LZ CK DT Bg tB o4 CL U3 L0 L1 Fl ym yn=>
 bd (rf (.agg (ba x4 x5 x6 x7 x8 x9)) (.agg [.i .i64 Kind,.i .i64 I,.i .i64 J,.i .i64 LX,.i .i64 LY,.i .i64 LZ,.s CK,.list DT,.i .i64 Bg,.i .i64 tB,.s o4,.list CL,.i .i64 U3,.i .i64 L0,.b L1,.i .i64 Fl,.s ym,.list yn])) λgm=>
 gA gm λxH=>
 cZ xH λZX ZY PV Gx N1 pz=>
 bd (
 bl (decide (I<0)) (
 some [.b true]) (
 bq cQ λez=>
 bl (decide ((ez:Int)<=I)) (
 some [.b true]) (
 idx cQ I λy1=>
 gB y1 λrB=>
 some [.b rB]))) λkl=>
 gC kl λm43 YF=>
 gB m43 λr8=>
 gN YF<|
 bd (
 bl (decide (Kind=3)) (
 bd (uv (.agg (ba x4 x5 x6 x7 x8 x9)) (.agg (aE LX LY LZ CK DT Bg tB o4 CL U3 L0 L1 Fl ym yn))) λlz=>
 gB lz λr9=>
 bl (!r9) (
 bd (tD (.agg (ba x4 x5 x6 x7 x8 x9)) (.agg (ba ZX ZY PV Gx N1 pz))) λqK=>
 gB qK λtA=>
 some [.b (!tA)]) (
 bl (!decide (Kind=3)) (
 bl r8 (
 bd (tD (.agg (ba x4 x5 x6 x7 x8 x9)) (.agg (ba ZX ZY PV Gx N1 pz))) λzw=>
 gB zw λxf=>
 some [.b (!xf)]) (
 some [.b false])) (
 some [.b false]))) (
 bl (!decide (Kind=3)) (
 bl r8 (
 bd (tD (.agg (ba x4 x5 x6 x7 x8 x9)) (.agg (ba ZX ZY PV Gx N1 pz))) λTG=>
 gB TG λzx=>
 some [.b (!zx)]) (
 some [.b false])) (
 some [.b false]))) λtV=>
 gC tV λm44 PP=>
 gB m44 λwK=>
 gN PP<|
 bl wK (
 some (.inr (1,[.b false]))) (
 bd (
 bq pz λlB=>
 bq x9 λxg=>
 bl (decide ((lB:Int)<(xg:Int))) (
 some [.b true]) (
 bq pz λCJ=>
 some [.b (decide ((400:Int)<(CJ:Int)))])) λYJ=>
 gC YJ λm45 ajk=>
 gB m45 λKi=>
 gN ajk<|
 bl Ki (
 some (.inr (1,[.b false]))) (
 some (.inl (qd ZX ZY PV Gx N1 pz (eJ .i64 (qE+1))))))) (
 some (.inr (2,(ba x4 x5 x6 x7 x8 x9))))) (qd wk wm CY uD N bg 0)) λp=>
 bl (sh p.1 2) (
 lf .i64 .i64 p.2 λV2 U5 U6 U7 x23 V3=>
 bd (Loop (λajl=>
 gC ajl λm52 YU=>
 gI .i64 m52 λTN=>
 gN YU<|
 bq V3 λzh=>
 bl (decide (TN<(zh:Int))) (
 bd (Loop (λYV=>
 gC YV λm53 YW=>
 gI .i64 m53 λU8=>
 gN YW<|
 bl (decide (U8<TN)) (
 idx V3 TN λy2=>
 gA y2 λcs4=>
 ch cs4 λJy eQ View Value dP eI dc cA Proof uR ju jv eB cO cM=>
 idx V3 U8 λy3=>
 gA y3 λcs5=>
 ch cs5 λajm TP ek bN xv En xw uB eR uC nh ni iZ fL fM=>
 bd (
 bl (decide (Jy=2)) (
 bl (decide (ajm=2)) (
 bl (decide (eI=En)) (
 bl (decide (dc=xw)) (
 some [.b (!decide (cA=uB))]) (
 some [.b false])) (
 some [.b false])) (
 some [.b false])) (
 some [.b false])) λvs4=>
 gC vs4 λm84 ajn=>
 gB m84 λYG=>
 gN ajn<|
 bd (
 bl YG (
 bl (decide (eI<0)) (
 some [.b true]) (
 bq cQ λKC=>
 bl (decide ((KC:Int)<=eI)) (
 some [.b true]) (
 idx cQ eI λy4=>
 gB y4 λZR=>
 some [.b (!ZR)]))) (
 some [.b false])) λvs5=>
 gC vs5 λm85 ajo=>
 gB m85 λZS=>
 gN ajo<|
 bl ZS (
 some (.inr (1,[.b false]))) (
 some (.inl [.i .i64 (eJ .i64 (U8+1))]))) (
 some (.inr (6,[])))) [.i .i64 0]) λp4=>
 bl (sh p4.1 6) (
 gN p4.2<|
 some (.inl [.i .i64 (eJ .i64 (TN+1))])) (
 ca (sh p4.1 1)<|
 gC p4.2 λm86 ajp=>
 gB m86 λZT=>
 gN ajp<|
 some (.inr (1,[.b ZT])))) (
 some (.inr (4,[])))) [.i .i64 0]) λp3=>
 bl (sh p3.1 4) (
 gN p3.2<|
 bd (tE) λYl=>
 gB Yl λZU=>
 some (.b ZU)) (
 ca (sh p3.1 1)<|
 gC p3.2 λm87 ajq=>
 gB m87 λZV=>
 gN ajq<|
 some (.b ZV))) (
 ca (sh p.1 1)<|
 gC p.2 λm88 ajr=>
 gB m88 λZW=>
 gN ajr<|
 some (.b ZW))))
def PW:GT:=bI 5 (iw Aq) Mc
theorem G8:SG PW:=Bw KP [] [] 188 [] [122,125] [(17,[5])] [(23,[0,1,2,3,4,5,6,7,8,9,10,11,12,13])] [(25,⟨[2,5,11,12,13,15],[],[],[(0,[(186,.sc (.k .b))])],[]⟩),(24,⟨[2,5,11,12,13,14],[],[],[(0,[(15,.sc (.k .b))])],[]⟩),(14,⟨[1,2,5,7,9],[],[],[(0,[(102,.sc (.k .b))])],[]⟩),(12,⟨[1,2,5,7,8,9,10],[],[],[(0,[(89,.sc (.k .b))])],[]⟩),(11,⟨[1,2,5,7,8,9],[],[],[(0,[(10,.sc (.k .b))])],[]⟩)] [] [(21,⟨[2,5,11],[],[(12,.sc (.k (.i .i64)))],[(1,[(4,.sc (.k .b))]),(6,[])],[]⟩),(18,⟨[2,5],[],[(11,.sc (.k (.i .i64)))],[(1,[(4,.sc (.k .b))]),(4,[])],[]⟩),(7,⟨[1,2],[],[(5,.box [.k (.i .i64),.k (.i .i64),.k .l,.k .l,.k .l,.k .l]),(7,.sc (.k (.i .i64)))],[(1,[(4,.sc (.k .b))]),(2,[(5,.box [.k (.i .i64),.k (.i .i64),.k .l,.k .l,.k .l,.k .l])])],[]⟩)] [] Tryz.func5 (by kernel_rfl) (bS (λ_ _=>by kernel_rfl))
end
end Dn.S
