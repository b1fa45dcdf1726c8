import Derived.Test.YtmdlghpieagfhaaGreatDnYTab
import Derived.Test.YtmdlghpieagfhaaGreatDnC
import Derived.Test.YtmdlghpieagfhaaGreatDnD
import Derived.Test.YtmdlghpieagfhaaGreatDnYT
import Derived.KernelRfl
import Derived.Test.YtmdlghpieagfhaaGreatProg
/-
  The functions, on plain values, and their contracts. Conditions: none.
-/
set_option linter.unusedVariables false
set_option linter.unusedSimpArgs false
open Go.IntKind renaming wrap→cM,bits→BY
open Nat renaming beq→sh,eq_of_beq_eq_true→AT,le_of_ble_eq_true→IT
open Int renaming toNat→AI,fdiv→aaT
open Go.Extern.SlicesOverlaps renaming overlaps→No
open List renaming drop→OF,take→aaf,replicate→aaU
open Go.FloatKind renaming nearest→aaW
open Option.some renaming injEq→aa1
open Go Dn Go.Proofs
set_option maxRecDepth 100000
namespace Dn.S
noncomputable section
theorem oz:jA Tryz.prog (ua F4):=NW (by kernel_rfl)
theorem Ja:Nt Tryz.prog (ua F4):=Wp (by kernel_rfl)
theorem wa:Tryz.prog.follows .mixedOrders=true:=by kernel_rfl
def oII {R:Type}(k0 k1:IntKind)(l0:List MV)(K:Int->Int->Option R):Option R:=gC l0 λm0 l1=>gI k0 m0 λx0=>gC l1 λm1 l2=>gI k1 m1 λx1=>gN l2<|K x0 x1
def Vc {R:Type}(k0 k1 k3:IntKind)(l0:List MV)(K:Int->Int->Bool->Int->List UInt8->List MV->Option R):Option R:=gC l0 λm0 l1=>gI k0 m0 λx0=>gC l1 λm1 l2=>gI k1 m1 λx1=>gC l2 λm2 l3=>gB m2 λx2=>gC l3 λm3 l4=>gI k3 m3 λx3=>gC l4 λm4 l5=>gS m4 λx4=>gC l5 λm5 l6=>gL m5 λx5=>gN l6<|K x0 x1 x2 x3 x4 x5
def Jb {R:Type}(k0 k1 k2 k3 k5:IntKind)(l0:List MV)(K:Int->Int->Int->Int->Bool->Int->List UInt8->List MV->List MV->Option R):Option R:=gC l0 λm0 l1=>gI k0 m0 λx0=>gC l1 λm1 l2=>gI k1 m1 λx1=>gC l2 λm2 l3=>gI k2 m2 λx2=>gC l3 λm3 l4=>gI k3 m3 λx3=>gC l4 λm4 l5=>gB m4 λx4=>gC l5 λm5 l6=>gI k5 m5 λx5=>gC l6 λm6 l7=>gS m6 λx6=>gC l7 λm7 l8=>gL m7 λx7=>gC l8 λm8 l9=>gL m8 λx8=>gN l9<|K x0 x1 x2 x3 x4 x5 x6 x7 x8
def fM {R:Type}(k0 k1 k2 k3 k5 k9 Vd k17:IntKind)(l0:List MV)(K:Int->Int->Int->Int->Bool->Int->List UInt8->List MV->List MV->Int->Int->List MV->List MV->List MV->Bool->List UInt8->List MV->Int->Option R):Option R:=gC l0 λm0 l1=>gI k0 m0 λx0=>gC l1 λm1 l2=>gI k1 m1 λx1=>gC l2 λm2 l3=>gI k2 m2 λx2=>gC l3 λm3 l4=>gI k3 m3 λx3=>gC l4 λm4 l5=>gB m4 λx4=>gC l5 λm5 l6=>gI k5 m5 λx5=>gC l6 λm6 l7=>gS m6 λx6=>gC l7 λm7 l8=>gL m7 λx7=>gC l8 λm8 l9=>gL m8 λx8=>gC l9 λm9 l10=>gI k9 m9 λx9=>gC l10 λK5 l11=>gI Vd K5 λqK=>gC l11 λJc l12=>gL Jc λrR=>gC l12 λCA l13=>gL CA λsd=>gC l13 λJd l14=>gL Jd λsn=>gC l14 λE9 l15=>gB E9 λuM=>gC l15 λK6 l16=>gS K6 λyb=>gC l16 λOq l17=>gL Oq λBh=>gC l17 λBA l18=>gI k17 BA λxr=>gN l18<|K x0 x1 x2 x3 x4 x5 x6 x7 x8 x9 qK rR sd sn uM yb Bh xr
def jJ {R:Type}(k0 k1 k2 k3 k5 k9 Vd k17:IntKind)(l0:List MV)(K:Int->Int->Int->Int->Bool->Int->List UInt8->List MV->List MV->Int->Int->List MV->List MV->List MV->Bool->List UInt8->List MV->Int->List MV->Option R):Option R:=gC l0 λm0 l1=>gI k0 m0 λx0=>gC l1 λm1 l2=>gI k1 m1 λx1=>gC l2 λm2 l3=>gI k2 m2 λx2=>gC l3 λm3 l4=>gI k3 m3 λx3=>gC l4 λm4 l5=>gB m4 λx4=>gC l5 λm5 l6=>gI k5 m5 λx5=>gC l6 λm6 l7=>gS m6 λx6=>gC l7 λm7 l8=>gL m7 λx7=>gC l8 λm8 l9=>gL m8 λx8=>gC l9 λm9 l10=>gI k9 m9 λx9=>gC l10 λK5 l11=>gI Vd K5 λqK=>gC l11 λJc l12=>gL Jc λrR=>gC l12 λCA l13=>gL CA λsd=>gC l13 λJd l14=>gL Jd λsn=>gC l14 λE9 l15=>gB E9 λuM=>gC l15 λK6 l16=>gS K6 λyb=>gC l16 λOq l17=>gL Oq λBh=>gC l17 λBA l18=>gI k17 BA λxr=>gC l18 λGV l19=>gL GV λMv=>gN l19<|K x0 x1 x2 x3 x4 x5 x6 x7 x8 x9 qK rR sd sn uM yb Bh xr Mv
def sH {R:Type}(k0 k1 k2 k3 k4 k5 k8 k9 k12 k13 k15:IntKind)(l0:List MV)(K:Int->Int->Int->Int->Int->Int->List UInt8->List MV->Int->Int->List UInt8->List MV->Int->Int->Bool->Int->List UInt8->List MV->Option R):Option R:=gC l0 λm0 l1=>gI k0 m0 λx0=>gC l1 λm1 l2=>gI k1 m1 λx1=>gC l2 λm2 l3=>gI k2 m2 λx2=>gC l3 λm3 l4=>gI k3 m3 λx3=>gC l4 λm4 l5=>gI k4 m4 λx4=>gC l5 λm5 l6=>gI k5 m5 λx5=>gC l6 λm6 l7=>gS m6 λx6=>gC l7 λm7 l8=>gL m7 λx7=>gC l8 λm8 l9=>gI k8 m8 λx8=>gC l9 λm9 l10=>gI k9 m9 λx9=>gC l10 λK5 l11=>gS K5 λqK=>gC l11 λJc l12=>gL Jc λrR=>gC l12 λCA l13=>gI k12 CA λsd=>gC l13 λJd l14=>gI k13 Jd λsn=>gC l14 λE9 l15=>gB E9 λuM=>gC l15 λK6 l16=>gI k15 K6 λyb=>gC l16 λOq l17=>gS Oq λBh=>gC l17 λBA l18=>gL BA λxr=>gN l18<|K x0 x1 x2 x3 x4 x5 x6 x7 x8 x9 qK rR sd sn uM yb Bh xr
def nk {R:Type}(k0 k1 k2 k5 k6 k9 Vd k12:IntKind)(l0:List MV)(K:Int->Int->Int->List UInt8->List MV->Int->Int->List UInt8->List MV->Int->Int->Bool->Int->List UInt8->List MV->Option R):Option R:=gC l0 λm0 l1=>gI k0 m0 λx0=>gC l1 λm1 l2=>gI k1 m1 λx1=>gC l2 λm2 l3=>gI k2 m2 λx2=>gC l3 λm3 l4=>gS m3 λx3=>gC l4 λm4 l5=>gL m4 λx4=>gC l5 λm5 l6=>gI k5 m5 λx5=>gC l6 λm6 l7=>gI k6 m6 λx6=>gC l7 λm7 l8=>gS m7 λx7=>gC l8 λm8 l9=>gL m8 λx8=>gC l9 λm9 l10=>gI k9 m9 λx9=>gC l10 λK5 l11=>gI Vd K5 λqK=>gC l11 λJc l12=>gB Jc λrR=>gC l12 λCA l13=>gI k12 CA λsd=>gC l13 λJd l14=>gS Jd λsn=>gC l14 λE9 l15=>gL E9 λuM=>gN l15<|K x0 x1 x2 x3 x4 x5 x6 x7 x8 x9 qK rR sd sn uM
def Ac {R:Type}(k0 k1:IntKind)(l0:List MV)(K:Int->Int->List MV->List MV->List MV->Bool->List UInt8->Option R):Option R:=gC l0 λm0 l1=>gI k0 m0 λx0=>gC l1 λm1 l2=>gI k1 m1 λx1=>gC l2 λm2 l3=>gL m2 λx2=>gC l3 λm3 l4=>gL m3 λx3=>gC l4 λm4 l5=>gL m4 λx4=>gC l5 λm5 l6=>gB m5 λx5=>gC l6 λm6 l7=>gS m6 λx6=>gN l7<|K x0 x1 x2 x3 x4 x5 x6
def lQ {R:Type}(k0 k1:IntKind)(l0:List MV)(K:Int->Int->List MV->List MV->List MV->List MV->Option R):Option R:=gC l0 λm0 l1=>gI k0 m0 λx0=>gC l1 λm1 l2=>gI k1 m1 λx1=>gC l2 λm2 l3=>gL m2 λx2=>gC l3 λm3 l4=>gL m3 λx3=>gC l4 λm4 l5=>gL m4 λx4=>gC l5 λm5 l6=>gL m5 λx5=>gN l6<|K x0 x1 x2 x3 x4 x5
def alX {R:Type}(k0 k1:IntKind)(l0:List MV)(K:Int->Int->List UInt8->Option R):Option R:=gC l0 λm0 l1=>gI k0 m0 λx0=>gC l1 λm1 l2=>gI k1 m1 λx1=>gC l2 λm2 l3=>gS m2 λx2=>gN l3<|K x0 x1 x2
def aeb {R:Type}(k0:IntKind)(l0:List MV)(K:Int->List UInt8->Bool->Option R):Option R:=gC l0 λm0 l1=>gI k0 m0 λx0=>gC l1 λm1 l2=>gS m1 λx1=>gC l2 λm2 l3=>gB m2 λx2=>gN l3<|K x0 x1 x2
def oLI {R:Type}(k1:IntKind)(l0:List MV)(K:List MV->Int->Option R):Option R:=gC l0 λm0 l1=>gL m0 λx0=>gC l1 λm1 l2=>gI k1 m1 λx1=>gN l2<|K x0 x1
abbrev nK {R:Type}:= @sH R .i64 .i64 .i64 .i64 .i64 .i64 .i64 .i64 .i64 .i64 .i64
abbrev ig {R:Type}:= @Vc R .i64 .i64 .i64
abbrev C5 {R:Type}:= @oII R .i64 .i64
abbrev iu {R:Type}:= @Jb R .i64 .i64 .i64 .i64 .i64
abbrev gY {R:Type}:= @Ac R .i64 .i64
abbrev bg {R:Type}:= @fM R .i64 .i64 .i64 .i64 .i64 .i64 .i64 .i64
abbrev cO {R:Type}:= @lQ R .i64 .i64
abbrev DF {R:Type}:= @oLI R .i64
abbrev lX {R:Type}:= @alX R .i64 .i64
abbrev Ot {R:Type}:= @aeb R .i64
abbrev dZ {R:Type}:= @nk R .i64 .i64 .i64 .i64 .i64 .i64 .i64 .i64
@[reducible] def fU (x0 : Int)(x1 : Int)(x2 : Bool)(x3 : Int)(x4 : List UInt8)(x5 : List MV) : List MV := [.i .i64 x0, .i .i64 x1, .b x2, .i .i64 x3, .s x4, .list x5]
@[reducible] def cV (x0 : Int)(x1 : Int)(x2 : Int)(x3 : Int)(x4 : Bool)(x5 : Int)(x6 : List UInt8)(x7 : List MV)(x8 : List MV) : List MV := [.i .i64 x0, .i .i64 x1, .i .i64 x2, .i .i64 x3, .b x4, .i .i64 x5, .s x6, .list x7, .list x8]
@[reducible] def aw (x0 : Int)(x1 : Int)(x2 : Int)(x3 : Int)(x4 : Bool)(x5 : Int)(x6 : List UInt8)(x7 : List MV)(x8 : List MV)(x9 : Int)(qK : Int)(rR : List MV)(sd : List MV)(sn : List MV)(uM : Bool)(yb : List UInt8)(Bh : List MV)(xr : Int) : List MV := [.i .i64 x0, .i .i64 x1, .i .i64 x2, .i .i64 x3, .b x4, .i .i64 x5, .s x6, .list x7, .list x8, .i .i64 x9, .i .i64 qK, .list rR, .list sd, .list sn, .b uM, .s yb, .list Bh, .i .i64 xr]
@[reducible] def dP (x0 : Int)(x1 : Int)(x2 : Int)(x3 : Int)(x4 : Bool)(x5 : Int)(x6 : List UInt8)(x7 : List MV)(x8 : List MV)(x9 : Int)(qK : Int)(rR : List MV)(sd : List MV)(sn : List MV)(uM : Bool)(yb : List UInt8)(Bh : List MV)(xr : Int)(Mv : List MV) : List MV := [.i .i64 x0, .i .i64 x1, .i .i64 x2, .i .i64 x3, .b x4, .i .i64 x5, .s x6, .list x7, .list x8, .i .i64 x9, .i .i64 qK, .list rR, .list sd, .list sn, .b uM, .s yb, .list Bh, .i .i64 xr, .list Mv]
@[reducible] def aF (x0 : Int)(x1 : Int)(x2 : Int)(x3 : List UInt8)(x4 : List MV)(x5 : Int)(x6 : Int)(x7 : List UInt8)(x8 : List MV)(x9 : Int)(qK : Int)(rR : Bool)(sd : Int)(sn : List UInt8)(uM : List MV) : List MV := [.i .i64 x0, .i .i64 x1, .i .i64 x2, .s x3, .list x4, .i .i64 x5, .i .i64 x6, .s x7, .list x8, .i .i64 x9, .i .i64 qK, .b rR, .i .i64 sd, .s sn, .list uM]
@[reducible] def cP (x0 : Int)(x1 : Int)(x2 : List MV)(x3 : List MV)(x4 : List MV)(x5 : Bool)(x6 : List UInt8) : List MV := [.i .i64 x0, .i .i64 x1, .list x2, .list x3, .list x4, .b x5, .s x6]
@[reducible] def bj (x0 : Int)(x1 : Int)(x2 : List MV)(x3 : List MV)(x4 : List MV)(x5 : List MV) : List MV := [.i .i64 x0, .i .i64 x1, .list x2, .list x3, .list x4, .list x5]
def Je:List (Nat×pa)->Nat->pa
 |[],_=>default
 |(k,s)::r,t=>bif sh k t then s else Je r t
def QG:List (Nat×List Nat)->Nat->List Nat
 |[],_=>[]
 |(k,s)::r,t=>bif sh k t then s else QG r t
def QH:List (Nat×Nat)->Nat->Nat
 |[],_=>0
 |(k,s)::r,t=>bif sh k t then s else QH r t
def kk (n:Nat):Nat:=n
def gv (n:Nat):Bool:=bI [108,157,47,72,75,76,77,89,101,126,127,128,141] n
def frs (n:Nat):Bool:=bI [59,69,70,74,108,156,157,170,131,132,174,137,138,187,140,151] n
def Ve:List (Nat×Nat):=[(59,60),(69,4),(70,9),(74,40),(108,60),(156,58),(157,58),(170,5),(131,5),(132,5),(174,5),(137,5),(138,5)]
def Jf:List (Nat×FloatKind)->Nat->Option FloatKind
 |[],_=>none
 |(k,s)::r,t=>bif sh k t then some s else Jf r t
def Mw:List (Nat×FloatKind):=[(215,.f64)]
theorem Jg: ∀t k,Jf Mw t=some k->Tryz.prog.underlying t=some (.float k):=by
 intro t k h;unfold Mw at h;simp only [Jf] at h;cases hb:sh 215 t with
 |true=>rw [hb] at h;have ht:=AT hb;subst ht;simp only [cond_true,aa1] at h;subst h;exact Tryz.underlying215
 |false=>
 rw [hb] at h;simp only [cond_false] at h;cases h
def Mx:List (Nat×(Nat×Bool)):=[(197,(9,false)),(249,(251,false))]
def Ge:List (Nat×(Nat×List LK))->Nat->Option (Nat×List LK)
 |[],_=>none
 |(k,s)::r,t=>bif sh k t then some s else Ge r t
abbrev afR:List LK:=[.k (.i .i64),.k (.i .i64),.k (.i .i64),.k (.i .i64),.k (.b),.k (.i .i64),.k (.s),.k (.l),.k (.l),.k (.i .i64),.k (.i .i64),.k (.l),.k (.l),.k (.l),.k (.b),.k (.s),.k (.l),.k (.i .i64)]
abbrev afS:List LK:=[.k (.i .i64),.k (.i .i64),.k (.l),.k (.l),.k (.l),.k (.l)]
abbrev Gf:List LK:=[.k (.i .i64),.k (.i .i64),.k (.l),.k (.l),.own 2000004 40 false,.k (.l)]
abbrev Vf:List LK:=[.k (.i .i64)]
abbrev My:List LK:=[.k (.i .i64),.k (.i .i64),.k (.l),.k (.l),.k (.l),.k (.b),.k (.s)]
abbrev Mz:List LK:=[.k (.l),.k (.i .i64)]
def Ou:List (Nat×(Nat×List LK)):=[(47,(0,afR)),(72,(0,afS)),(75,(0,Gf)),(76,(0,Gf)),(77,(0,Gf)),(89,(1,Vf)),(101,(1,My)),(126,(0,Mz)),(127,(0,Mz)),(128,(0,Mz)),(141,(0,Gf))]
def dl (n:Nat):Bool:=bI [] n
def cx:Ctx:=⟨ua F4,kk,λ_ _=>none,gv,frs,QH Ve,Ge Ou,[],0,[],[],λ_=>[],Jf Mw,Dt Mx,λ_=>[],λ_=>default,λ_=>default,λ_=>default,dl,[]⟩
def Ov (g:Nat->List MV->Option MV)(par:List (Nat×Nat))(n:Nat)(bs fl:List Nat)(fz ord:List (Nat×List Nat))(yS AS wv:List (Nat×pa))(dyn:List Nat):Ctx:=⟨ua F4,kk,g,gv,frs,QH Ve,Ge Ou,par,n,bs,fl,QG fz,Jf Mw,Dt Mx,QG ord,Je yS,Je AS,Je wv,dl,dyn⟩
theorem MA:xI Tryz.prog cx:=Iz (l:=Mx) (by kernel_rfl) (λ_ _ h=>h)
def lY (t:Nat):TI:=match ua F4 t with|some I=>I|none=>⟨false,0,0,[],[],[],[],0,[]⟩
theorem tv4:cx.tv 4=some (lY 4):=by kernel_rfl
theorem tv9:cx.tv 9=some (lY 9):=by kernel_rfl
theorem aqs:cx.tv 24=some (lY 24):=by kernel_rfl
theorem aqt:cx.tv 25=some (lY 25):=by kernel_rfl
theorem alY:cx.tv 31=some (lY 31):=by kernel_rfl
theorem alZ:cx.tv 38=some (lY 38):=by kernel_rfl
theorem aqu:cx.tv 40=some (lY 40):=by kernel_rfl
theorem al0:cx.tv 58=some (lY 58):=by kernel_rfl
theorem al1:cx.tv 60=some (lY 60):=by kernel_rfl
theorem aqv:cx.tv 82=some (lY 82):=by kernel_rfl
theorem Bi:si Tryz.prog cx:=by intro n hn;unfold cx dl bI at hn;cases hn
abbrev GT:=Nat->List MV->Option MV
abbrev SG (g:GT):Prop:=dD Tryz.prog cx g
theorem ahO {g:GT}(h:SG g):SG (bL 59 (jq 6 72) g):=h.Tl (λ_=>rfl) (λms r hr=>by obtain ⟨xs,rfl,rfl,h1,h2⟩:=rK hr;exact zW (P:=Tryz.prog) (c:=cx) (f:=59) (fn:=Tryz.f59) (t:=38) (I:=lY 38) (E:=lY 60) (i0:=0) (i1:=1) (i2:=2) (i3:=3) (oA:=iQ Tryz.f59 iR 0) (oB:=iQ Tryz.f59 iR 1) (oC:=iQ Tryz.f59 iR 2) (oD:=iQ Tryz.f59 iR 3) (oE:=iQ Tryz.f59 iR 4) (oF:=iQ Tryz.f59 iR 5) (oG:=iQ Tryz.f59 iR 6) (oH:=iQ Tryz.f59 iR 7) oz alZ (by kernel_rfl) al1 (IT (by kernel_rfl)) (by kernel_rfl) (by kernel_rfl) Tryz.func59 (by kernel_rfl) (by kernel_rfl) (by kernel_rfl) (by kernel_rfl) ⟨by kernel_rfl,by kernel_rfl,by kernel_rfl⟩ ⟨by kernel_rfl,by kernel_rfl,by kernel_rfl⟩ ⟨by kernel_rfl,by kernel_rfl,by kernel_rfl⟩ ⟨by kernel_rfl,by kernel_rfl,by kernel_rfl⟩ ⟨by kernel_rfl,by kernel_rfl,by kernel_rfl⟩ ⟨by kernel_rfl,by kernel_rfl,by kernel_rfl⟩ ⟨by kernel_rfl,by kernel_rfl,by kernel_rfl⟩ ⟨by kernel_rfl,by kernel_rfl,by kernel_rfl⟩ (by rw [show (lY 60).size=6 by kernel_rfl];exact h1) (by rw [show (lY 60).bytes=72 by kernel_rfl];exact h2))
theorem ahP {g:GT}(h:SG g):SG (bL 69 (jq 1 1) g):=h.Tl (λ_=>rfl) (λms r hr=>by obtain ⟨xs,rfl,rfl,h1,h2⟩:=rK hr;exact zW (P:=Tryz.prog) (c:=cx) (f:=69) (fn:=Tryz.f69) (t:=24) (I:=lY 24) (E:=lY 4) (i0:=0) (i1:=1) (i2:=2) (i3:=3) (oA:=iQ Tryz.f69 iR 0) (oB:=iQ Tryz.f69 iR 1) (oC:=iQ Tryz.f69 iR 2) (oD:=iQ Tryz.f69 iR 3) (oE:=iQ Tryz.f69 iR 4) (oF:=iQ Tryz.f69 iR 5) (oG:=iQ Tryz.f69 iR 6) (oH:=iQ Tryz.f69 iR 7) oz aqs (by kernel_rfl) tv4 (IT (by kernel_rfl)) (by kernel_rfl) (by kernel_rfl) Tryz.func69 (by kernel_rfl) (by kernel_rfl) (by kernel_rfl) (by kernel_rfl) ⟨by kernel_rfl,by kernel_rfl,by kernel_rfl⟩ ⟨by kernel_rfl,by kernel_rfl,by kernel_rfl⟩ ⟨by kernel_rfl,by kernel_rfl,by kernel_rfl⟩ ⟨by kernel_rfl,by kernel_rfl,by kernel_rfl⟩ ⟨by kernel_rfl,by kernel_rfl,by kernel_rfl⟩ ⟨by kernel_rfl,by kernel_rfl,by kernel_rfl⟩ ⟨by kernel_rfl,by kernel_rfl,by kernel_rfl⟩ ⟨by kernel_rfl,by kernel_rfl,by kernel_rfl⟩ (by rw [show (lY 4).size=1 by kernel_rfl];exact h1) (by rw [show (lY 4).bytes=1 by kernel_rfl];exact h2))
theorem ahQ {g:GT}(h:SG g):SG (bL 70 (jq 1 16) g):=h.Tl (λ_=>rfl) (λms r hr=>by obtain ⟨xs,rfl,rfl,h1,h2⟩:=rK hr;exact zW (P:=Tryz.prog) (c:=cx) (f:=70) (fn:=Tryz.f70) (t:=25) (I:=lY 25) (E:=lY 9) (i0:=0) (i1:=1) (i2:=2) (i3:=3) (oA:=iQ Tryz.f70 iR 0) (oB:=iQ Tryz.f70 iR 1) (oC:=iQ Tryz.f70 iR 2) (oD:=iQ Tryz.f70 iR 3) (oE:=iQ Tryz.f70 iR 4) (oF:=iQ Tryz.f70 iR 5) (oG:=iQ Tryz.f70 iR 6) (oH:=iQ Tryz.f70 iR 7) oz aqt (by kernel_rfl) tv9 (IT (by kernel_rfl)) (by kernel_rfl) (by kernel_rfl) Tryz.func70 (by kernel_rfl) (by kernel_rfl) (by kernel_rfl) (by kernel_rfl) ⟨by kernel_rfl,by kernel_rfl,by kernel_rfl⟩ ⟨by kernel_rfl,by kernel_rfl,by kernel_rfl⟩ ⟨by kernel_rfl,by kernel_rfl,by kernel_rfl⟩ ⟨by kernel_rfl,by kernel_rfl,by kernel_rfl⟩ ⟨by kernel_rfl,by kernel_rfl,by kernel_rfl⟩ ⟨by kernel_rfl,by kernel_rfl,by kernel_rfl⟩ ⟨by kernel_rfl,by kernel_rfl,by kernel_rfl⟩ ⟨by kernel_rfl,by kernel_rfl,by kernel_rfl⟩ (by rw [show (lY 9).size=1 by kernel_rfl];exact h1) (by rw [show (lY 9).bytes=16 by kernel_rfl];exact h2))
theorem ahR {g:GT}(h:SG g):SG (bL 74 (jq 18 256) g):=h.Tl (λ_=>rfl) (λms r hr=>by obtain ⟨xs,rfl,rfl,h1,h2⟩:=rK hr;exact zW (P:=Tryz.prog) (c:=cx) (f:=74) (fn:=Tryz.f74) (t:=82) (I:=lY 82) (E:=lY 40) (i0:=0) (i1:=1) (i2:=2) (i3:=3) (oA:=iQ Tryz.f74 iR 0) (oB:=iQ Tryz.f74 iR 1) (oC:=iQ Tryz.f74 iR 2) (oD:=iQ Tryz.f74 iR 3) (oE:=iQ Tryz.f74 iR 4) (oF:=iQ Tryz.f74 iR 5) (oG:=iQ Tryz.f74 iR 6) (oH:=iQ Tryz.f74 iR 7) oz aqv (by kernel_rfl) aqu (IT (by kernel_rfl)) (by kernel_rfl) (by kernel_rfl) Tryz.func74 (by kernel_rfl) (by kernel_rfl) (by kernel_rfl) (by kernel_rfl) ⟨by kernel_rfl,by kernel_rfl,by kernel_rfl⟩ ⟨by kernel_rfl,by kernel_rfl,by kernel_rfl⟩ ⟨by kernel_rfl,by kernel_rfl,by kernel_rfl⟩ ⟨by kernel_rfl,by kernel_rfl,by kernel_rfl⟩ ⟨by kernel_rfl,by kernel_rfl,by kernel_rfl⟩ ⟨by kernel_rfl,by kernel_rfl,by kernel_rfl⟩ ⟨by kernel_rfl,by kernel_rfl,by kernel_rfl⟩ ⟨by kernel_rfl,by kernel_rfl,by kernel_rfl⟩ (by rw [show (lY 40).size=18 by kernel_rfl];exact h1) (by rw [show (lY 40).bytes=256 by kernel_rfl];exact h2))
theorem ahS:Mh Tryz.prog 108 38 3 4 60 163 Tryz.f108 (λk=>k) (iQ Tryz.f108 iR) (U8 (iQ Tryz.f108 iR)):=by refine ⟨Tryz.func108,by kernel_rfl,by kernel_rfl,by kernel_rfl,by kernel_rfl,?_,wa,by kernel_rfl⟩;constructor<;>first|exact ⟨by kernel_rfl,by kernel_rfl,by kernel_rfl⟩|kernel_rfl
theorem al2: ∀args w,(callFunc 163 args).run Tryz.prog w=((No #[38,38] #[4] args).run Tryz.prog w).andThen λv w'=> .ok (.value v) w':=λargs w=>run_callFunc_extern Tryz.func163 (by kernel_rfl) (by kernel_rfl) (by kernel_rfl) (e:=No #[38,38] #[4]) (by kernel_rfl) args w
theorem aec {g:GT}(h:SG g):SG (bL 108 (po 72) g):=h.Tl (λ_=>rfl) (λms r hr=>by obtain ⟨xs,ys,i,rfl,rfl,h1,h2,h3⟩:=DA hr;exact Mi (P:=Tryz.prog) (c:=cx) (I:=lY 38) (E:=lY 60) ahS oz alZ (by kernel_rfl) al1 (IT (by kernel_rfl)) (by kernel_rfl) (by kernel_rfl) (by kernel_rfl) (by kernel_rfl) al2 h1 h2 (by rw [show (lY 60).bytes=72 by kernel_rfl];exact h3))
theorem aed {g:GT}(h:SG g):SG (bL 156 (jq 3 32) g):=h.Tl (λ_=>rfl) (λms r hr=>by obtain ⟨xs,rfl,rfl,h1,h2⟩:=rK hr;exact zW (P:=Tryz.prog) (c:=cx) (f:=156) (fn:=Tryz.f156) (t:=31) (I:=lY 31) (E:=lY 58) (i0:=0) (i1:=1) (i2:=2) (i3:=3) (oA:=iQ Tryz.f156 iR 0) (oB:=iQ Tryz.f156 iR 1) (oC:=iQ Tryz.f156 iR 2) (oD:=iQ Tryz.f156 iR 3) (oE:=iQ Tryz.f156 iR 4) (oF:=iQ Tryz.f156 iR 5) (oG:=iQ Tryz.f156 iR 6) (oH:=iQ Tryz.f156 iR 7) oz alY (by kernel_rfl) al0 (IT (by kernel_rfl)) (by kernel_rfl) (by kernel_rfl) Tryz.func156 (by kernel_rfl) (by kernel_rfl) (by kernel_rfl) (by kernel_rfl) ⟨by kernel_rfl,by kernel_rfl,by kernel_rfl⟩ ⟨by kernel_rfl,by kernel_rfl,by kernel_rfl⟩ ⟨by kernel_rfl,by kernel_rfl,by kernel_rfl⟩ ⟨by kernel_rfl,by kernel_rfl,by kernel_rfl⟩ ⟨by kernel_rfl,by kernel_rfl,by kernel_rfl⟩ ⟨by kernel_rfl,by kernel_rfl,by kernel_rfl⟩ ⟨by kernel_rfl,by kernel_rfl,by kernel_rfl⟩ ⟨by kernel_rfl,by kernel_rfl,by kernel_rfl⟩ (by rw [show (lY 58).size=3 by kernel_rfl];exact h1) (by rw [show (lY 58).bytes=32 by kernel_rfl];exact h2))
theorem ahT:Mh Tryz.prog 157 31 3 4 58 181 Tryz.f157 (λk=>k) (iQ Tryz.f157 iR) (U8 (iQ Tryz.f157 iR)):=by refine ⟨Tryz.func157,by kernel_rfl,by kernel_rfl,by kernel_rfl,by kernel_rfl,?_,wa,by kernel_rfl⟩;constructor<;>first|exact ⟨by kernel_rfl,by kernel_rfl,by kernel_rfl⟩|kernel_rfl
theorem al3: ∀args w,(callFunc 181 args).run Tryz.prog w=((No #[31,31] #[4] args).run Tryz.prog w).andThen λv w'=> .ok (.value v) w':=λargs w=>run_callFunc_extern Tryz.func181 (by kernel_rfl) (by kernel_rfl) (by kernel_rfl) (e:=No #[31,31] #[4]) (by kernel_rfl) args w
theorem aee {g:GT}(h:SG g):SG (bL 157 (po 32) g):=h.Tl (λ_=>rfl) (λms r hr=>by obtain ⟨xs,ys,i,rfl,rfl,h1,h2,h3⟩:=DA hr;exact Mi (P:=Tryz.prog) (c:=cx) (I:=lY 31) (E:=lY 58) ahT oz alY (by kernel_rfl) al0 (IT (by kernel_rfl)) (by kernel_rfl) (by kernel_rfl) (by kernel_rfl) (by kernel_rfl) al3 h1 h2 (by rw [show (lY 58).bytes=32 by kernel_rfl];exact h3))
def H59:GT:=bL 59 (jq 6 72) (λ_ _=>none)
theorem aaF:SG H59:=ahO (dD.none _ _)
def H69:GT:=bL 69 (jq 1 1) H59
theorem aaG:SG H69:=ahP aaF
def H70:GT:=bL 70 (jq 1 16) H69
theorem aaH:SG H70:=ahQ aaG
def H74:GT:=bL 74 (jq 18 256) H70
theorem aaI:SG H74:=ahR aaH
def al4:GT:=bL 108 (po 72) H74
theorem WV:SG al4:=aec aaI
def al5:GT:=bL 156 (jq 3 32) al4
theorem WW:SG al5:=aed WV
def al6:GT:=bL 157 (po 32) al5
theorem WX:SG al6:=aee WW
abbrev afT:List LK:=[.k (.i .i64),.k (.i .i64),.k (.l),.k (.l),.own 2000004 40 false,.k (.l)]
def Hr:List (Nat×(Nat×List LK)):=(72,(0,afT))::Ou
def Vg:Ctx:=⟨ua F4,kk,λ_ _=>none,gv,frs,QH Ve,Ge Hr,[],0,[],[],λ_=>[],Jf Mw,Dt Mx,λ_=>[],λ_=>default,λ_=>default,λ_=>default,dl,[]⟩
def ahU (g:GT)(par:List (Nat×Nat))(n:Nat)(bs fl:List Nat)(fz ord:List (Nat×List Nat))(yS AS wv:List (Nat×pa))(dyn:List Nat):Ctx:=⟨ua F4,kk,g,gv,frs,QH Ve,Ge Hr,par,n,bs,fl,QG fz,Jf Mw,Dt Mx,QG ord,Je yS,Je AS,Je wv,dl,dyn⟩
theorem ahV:xI Tryz.prog Vg:=Iz (l:=Mx) (by kernel_rfl) (λ_ _ h=>h)
theorem aaJ:si Tryz.prog Vg:=by intro n hn;unfold Vg dl bI at hn;cases hn
theorem aaK:Ga 72 cx Vg:=⟨rfl,rfl,rfl,rfl,rfl,λk hk=>by
 show Ge Hr k=Ge Ou k;unfold Hr Ge;rw [show sh 72 k=false from by
  cases hb:sh 72 k with
  |false=>rfl
  |true=>exact absurd (AT hb).symm hk]
 rfl⟩
theorem ahW:Ga 72 Vg cx:=⟨rfl,rfl,rfl,rfl,rfl,λk hk=>(aaK.sig k hk).symm⟩
theorem C6 {g:GT}(s:SG g)(dh:List (List Kd))(par:List (Nat×Nat))(tn:Nat)(bs fl:List Nat)(fz ord:List (Nat×List Nat))(yS AS wv:List (Nat×pa))(dyn:List Nat){n:Nat}{fn:Func}{F:List MV->Option MV}(hf:Tryz.prog.funcs[n]? =some fn)(hh:BU (Ov g par tn bs fl fz ord yS AS wv dyn) n fn dh=true)(hF: ∀{ms r},F ms=some r->LH (Ov g par tn bs fl fz ord yS AS wv dyn) dh none fn ms=some r):SG (bL n F g):=s.fn (c':=Ov g par tn bs fl fz ord yS AS wv dyn) ⟨rfl,rfl,rfl,rfl,rfl,rfl,rfl,rfl,rfl⟩ rfl oz Ja Jg MA wa Bi hf hh (λ_=>rfl) (fresh:=none) rfl hF
theorem sq {g:GT}(s:SG g)(dh:List (List Kd))(tn:Nat)(yS AS wv:List (Nat×pa)){n:Nat}{fn:Func}{F:List MV->Option MV}(hf:Tryz.prog.funcs[n]? =some fn)(hh:BU (Ov g [] tn [] [] [] [] yS AS wv []) n fn dh=true)(hF: ∀{ms r},F ms=some r->LH (Ov g [] tn [] [] [] [] yS AS wv []) dh none fn ms=some r):SG (bL n F g):=C6 s dh [] tn [] [] [] [] yS AS wv [] hf hh hF
theorem fnC {g:GT}(s:SG g)(pos:Nat)(ks:List LK)(dh:List (List Kd))(par:List (Nat×Nat))(tn:Nat)(bs fl:List Nat)(fz ord:List (Nat×List Nat))(yS AS wv:List (Nat×pa))(dyn:List Nat){n:Nat}{fn:Func}{F:List MV->Option MV}(hf:Tryz.prog.funcs[n]? =some fn)(hs:cx.sig n=some (pos,ks))(hh:Mg (Ov g par tn bs fl fz ord yS AS wv dyn) n fn dh=true)(hF: ∀{ms r},F ms=some r->zu (Ov g par tn bs fl fz ord yS AS wv dyn) dh pos ks fn ms=some r):SG (bL n F g):=s.fnC oz Ja Jg MA wa Bi hf hs (λ_=>rfl) λh=>⟨Ov g par tn bs fl fz ord yS AS wv dyn,⟨rfl,rfl,rfl,rfl,rfl,rfl,rfl,rfl,rfl⟩,rfl,hh,hF h⟩
theorem aaL {g:GT}(s:dD Tryz.prog Vg g)(pos:Nat)(ks:List LK)(dh:List (List Kd))(par:List (Nat×Nat))(tn:Nat)(bs fl:List Nat)(fz ord:List (Nat×List Nat))(yS AS wv:List (Nat×pa))(dyn:List Nat){n:Nat}{fn:Func}{F:List MV->Option MV}(hf:Tryz.prog.funcs[n]? =some fn)(hs:Vg.sig n=some (pos,ks))(hh:Mg (ahU g par tn bs fl fz ord yS AS wv dyn) n fn dh=true)(hF: ∀{ms r},F ms=some r->zu (ahU g par tn bs fl fz ord yS AS wv dyn) dh pos ks fn ms=some r):dD Tryz.prog Vg (bL n F g):=s.fnC oz Ja Jg ahV wa aaJ hf hs (λ_=>rfl) λh=>⟨ahU g par tn bs fl fz ord yS AS wv dyn,⟨rfl,rfl,rfl,rfl,rfl,rfl,rfl,rfl,rfl⟩,rfl,hh,hF h⟩
theorem fnF {g:GT}(s:SG g)(ty:Nat)(dh:List (List Kd))(par:List (Nat×Nat))(tn:Nat)(bs fl:List Nat)(fz ord:List (Nat×List Nat))(yS AS wv:List (Nat×pa))(dyn:List Nat){n:Nat}{fn:Func}{F:List MV->Option MV}(hf:Tryz.prog.funcs[n]? =some fn)(hh:BU (Ov g par tn bs fl fz ord yS AS wv dyn) n fn dh=true)(EP:Cu (Ov g par tn bs fl fz ord yS AS wv dyn) n fn (some ty)=true)(hF: ∀{ms r},F ms=some r->LH (Ov g par tn bs fl fz ord yS AS wv dyn) dh (some ty) fn ms=some r):SG (bL n F g):=s.fn (c':=Ov g par tn bs fl fz ord yS AS wv dyn) ⟨rfl,rfl,rfl,rfl,rfl,rfl,rfl,rfl,rfl⟩ rfl oz Ja Jg MA wa Bi hf hh (λ_=>rfl) EP hF
theorem fnX {g:GT}(s:SG g)(dh:List (List Kd))(par:List (Nat×Nat))(tn:Nat)(bs fl:List Nat)(fz ord:List (Nat×List Nat))(yS AS wv:List (Nat×pa))(dyn:List Nat){n:Nat}{fn:Func}{F:List MV->Option MV}(hf:Tryz.prog.funcs[n]? =some fn)(hh:BU (Ov g par tn bs fl fz ord yS AS wv dyn) n fn dh=true)(hF: ∀{ms r},F ms=some r->Qr (Ov g par tn bs fl fz ord yS AS wv dyn) dh none fn ms=some r):SG (bL n F g):=s.fnX (c':=Ov g par tn bs fl fz ord yS AS wv dyn) ⟨rfl,rfl,rfl,rfl,rfl,rfl,rfl,rfl,rfl⟩ rfl oz Ja Jg MA wa Bi hf hh (λ_=>rfl) (fresh:=none) rfl hF
abbrev cl1 (d:List MV->Option MV):List MV->Option MV:=λms=>match ms with|[.cell (.func off a0)]=>(match sh off 0 with|true=>d a0|false=>none)|_=>none
theorem Tr {d:List MV->Option MV}{B:List MV->Option MV}(h: ∀a0,B [.cell (.func 0 a0)]=d a0){ms:List MV}{r:MV}(e:cl1 d ms=some r):B ms=some r:=by
 unfold cl1 at e;split at e
 ·rename_i off a0;cases ho:sh off 0 with
  |true=>have:=AT ho;subst this;exact (h _).trans e
  |false=>rw [ho] at e;cases e
 ·cases e
abbrev cl2 (d:List MV->MV->Option MV):List MV->Option MV:=λms=>match ms with|[.cell (.func off a0),a1]=>(match sh off 0 with|true=>d a0 a1|false=>none)|_=>none
theorem Ts {d:List MV->MV->Option MV}{B:List MV->Option MV}(h: ∀a0 a1,B [.cell (.func 0 a0),a1]=d a0 a1){ms:List MV}{r:MV}(e:cl2 d ms=some r):B ms=some r:=by
 unfold cl2 at e;split at e
 ·rename_i off a0 a1;cases ho:sh off 0 with
  |true=>have:=AT ho;subst this;exact (h _ _).trans e
  |false=>rw [ho] at e;cases e
 ·cases e
abbrev cl3 (d:List MV->MV->MV->Option MV):List MV->Option MV:=λms=>match ms with|[.cell (.func off a0),a1,a2]=>(match sh off 0 with|true=>d a0 a1 a2|false=>none)|_=>none
theorem aaM {d:List MV->MV->MV->Option MV}{B:List MV->Option MV}(h: ∀a0 a1 a2,B [.cell (.func 0 a0),a1,a2]=d a0 a1 a2){ms:List MV}{r:MV}(e:cl3 d ms=some r):B ms=some r:=by
 unfold cl3 at e;split at e
 ·rename_i off a0 a1 a2;cases ho:sh off 0 with
  |true=>have:=AT ho;subst this;exact (h _ _ _).trans e
  |false=>rw [ho] at e;cases e
 ·cases e
abbrev cl4 (d:List MV->MV->MV->MV->Option MV):List MV->Option MV:=λms=>match ms with|[.cell (.func off a0),a1,a2,a3]=>(match sh off 0 with|true=>d a0 a1 a2 a3|false=>none)|_=>none
theorem aaN {d:List MV->MV->MV->MV->Option MV}{B:List MV->Option MV}(h: ∀a0 a1 a2 a3,B [.cell (.func 0 a0),a1,a2,a3]=d a0 a1 a2 a3){ms:List MV}{r:MV}(e:cl4 d ms=some r):B ms=some r:=by
 unfold cl4 at e;split at e
 ·rename_i off a0 a1 a2 a3;cases ho:sh off 0 with
  |true=>have:=AT ho;subst this;exact (h _ _ _ _).trans e
  |false=>rw [ho] at e;cases e
 ·cases e
def Bj (a a1:MV):Option MV:=gA a λcs=>
 gC cs λm yV=>
 gI .i64 m λSF=>
 gC yV λm1 wb=>
 gI .i64 m1 λST=>
 gC wb λm2 pE=>
 gL m2 λbY=>
 gC pE λm3 CB=>
 gL m3 λWant=>
 gN CB<|
 gL a1 λlZ=>
 bd (
 bG (decide ((2:Int)<SF)) (
 some [.b true]) (
 cr bY λlen=>
 bG (decide ((30:Int)<(len:Int))) (
 some [.b true]) (
 cr Want λgZ=>
 bG (decide ((30:Int)<(gZ:Int))) (
 some [.b true]) (
 cr lZ λrS=>
 some [.b (decide ((80:Int)<(rS:Int)))])))) λvs=>
 gC vs λm4 CC=>
 gB m4 λx=>
 gN CC<|
 bG x (
 some (.b false)) (
 bd (Loop (λFa=>
 gC Fa λm5 Fb=>
 gI .i64 m5 λx1=>
 gN Fb<|
 cr Want λCD=>
 bG (decide (x1<(CD:Int))) (
 idx Want x1 λy=>
 gS y λx2=>
 bG (decide ((200:Int)<(x2.length:Int))) (
 some (.inr (1,[.b false]))) (
 some (.inl [.i .i64 (cM .i64 (x1+1))]))) (
 some (.inr (2,[])))) [.i .i64 0]) λp=>
 bG (sh p.1 2) (
 gN p.2<|
 bd (Loop (λAd=>
 gC Ad λm6 yc=>
 gI .i64 m6 λx3=>
 gN yc<|
 cr lZ λJh=>
 bG (decide (x3<(Jh:Int))) (
 idx lZ x3 λy1=>
 gA y1 λgQ=>
 nK gQ λKind I J QI QJ QK Fc Gg DG wS qL Fe aaO QL QM Ji Bk Bl=>
 bd (
 bG (decide ((200:Int)<(Fc.length:Int))) (
 some [.b true]) (
 bG (decide ((200:Int)<(qL.length:Int))) (
 some [.b true]) (
 cr Fe λFf=>
 bG (decide ((30:Int)<(Ff:Int))) (
 some [.b true]) (
 cr Gg λWY=>
 bG (decide ((30:Int)<(WY:Int))) (
 some [.b true]) (
 bG (decide ((200:Int)<(Bk.length:Int))) (
 some [.b true]) (
 cr Bl λaqx=>
 some [.b (decide ((30:Int)<(aqx:Int)))])))))) λkX=>
 gC kX λm25 QN=>
 gB m25 λx4=>
 gN QN<|
 bG x4 (
 some (.inr (1,[.b false]))) (
 bd (Loop (λJj=>
 gC Jj λm26 QO=>
 gI .i64 m26 λx5=>
 gN QO<|
 cr Gg λQP=>
 bG (decide (x5<(QP:Int))) (
 idx Gg x5 λy2=>
 gA y2 λqg=>
 ig qg λBy je Has View Value Proof=>
 cr Proof λaqz=>
 bG (decide ((30:Int)<(aqz:Int))) (
 some (.inr (1,[.b false]))) (
 some (.inl [.i .i64 (cM .i64 (x5+1))]))) (
 some (.inr (6,[])))) [.i .i64 0]) λp4=>
 bG (sh p4.1 6) (
 gN p4.2<|
 some (.inl [.i .i64 (cM .i64 (x3+1))])) (
 cU (sh p4.1 1)<|
 gC p4.2 λm33 QQ=>
 gB m33 λx6=>
 gN QQ<|
 some (.inr (1,[.b x6]))))) (
 some (.inr (4,[])))) [.i .i64 0]) λp3=>
 bG (sh p3.1 4) (
 gN p3.2<|
 some (.b true)) (
 cU (sh p3.1 1)<|
 gC p3.2 λm34 QR=>
 gB m34 λx7=>
 gN QR<|
 some (.b x7))) (
 cU (sh p.1 1)<|
 gC p.2 λm35 aaP=>
 gB m35 λx8=>
 gN aaP<|
 some (.b x8)))
def MB:GT:=bL 8 (jG Bj) al6
theorem K7:SG MB:=sq WX [] 107 [(12,⟨[1,6,7],[],[],[(0,[(91,.sc (.k .b))])],[]⟩),(1,⟨[1,2],[],[],[(0,[(29,.sc (.k .b))])],[]⟩)] [] [(15,⟨[1,6,7],[],[(8,.sc (.k (.i .i64)))],[(1,[(4,.sc (.k .b))]),(6,[])],[]⟩),(9,⟨[1],[],[(6,.sc (.k (.i .i64)))],[(1,[(4,.sc (.k .b))]),(4,[])],[]⟩),(4,⟨[1,2],[],[(5,.sc (.k (.i .i64)))],[(1,[(4,.sc (.k .b))]),(2,[])],[]⟩)] Tryz.func8 (by kernel_rfl) (b9 (λ_ _=>by kernel_rfl))
def q0 (sA:MV):Option MV:=gA sA λcs=>
 C5 cs λF T=>
 some (.raw (.complex .f64 (aaW .f64 F) (aaW .f64 T)))
def BW:GT:=bL 139 (qE q0) MB
theorem DH:SG BW:=sq K7 [] 10 [] [] [] Tryz.func139 (by kernel_rfl) (eI (λ_=>by kernel_rfl))
def jK (sA times:MV):Option MV:=gA sA λcs=>
 C5 cs λF T=>
 gR times λaaQ=>
 bd (q0 (.agg [.i .i64 F,.i .i64 T])) λrA=>
 gR rA λx=>
 gCx x λre im=>
 gCx aaQ λre1 im1=>
 bd (FloatKind.f64.format.mul re re1) λf=>
 gCx x λre2 im2=>
 gCx aaQ λre3 im3=>
 bd (FloatKind.f64.format.mul im2 im3) λf1=>
 bd (FloatKind.f64.format.add f f1) λf2=>
 bd ((FloatKind.decode .f64 f2).toInt .zero) λn=>
 cU (decide (IntKind.min .i64<=n/\n<=IntKind.max .i64))<|
 some (.i .i64 (cM .i64 (n+1)))
def Gi:GT:=bL 71 (jG jK) BW
theorem GW:SG Gi:=sq DH [] 21 [] [] [] Tryz.func71 (by kernel_rfl) (b9 (λ_ _=>by kernel_rfl))
def sr (sA:MV):Option MV:=gA sA λcs=>
 C5 cs λF T=>
 bd (jK (.agg [.i .i64 F,.i .i64 T]) (.raw (.complex .f64 4613937818241073152 4611686018427387904))) λrA=>
 gI .i64 rA λx=>
 some (.i .i64 x)
def aaR:GT:=bL 27 (qE sr) Gi
theorem Tt:SG aaR:=sq GW [] 5 [] [] [] Tryz.func27 (by kernel_rfl) (eI (λ_=>by kernel_rfl))
def kT (sA:MV):Option MV:=gA sA λcs=>
 C5 cs λF T=>
 bd (
 bG (decide ((1:Int)<=F)) (
 bG (decide (F<=5)) (
 bG (decide ((0:Int)<=T)) (
 some [.b (decide (T<=F))]) (
 some [.b false])) (
 some [.b false])) (
 some [.b false])) λvs=>
 gC vs λm2 pE=>
 gB m2 λx=>
 gN pE<|
 some (.b x)
def Jk:GT:=bL 68 (qE kT) aaR
theorem Jl:SG Jk:=sq Tt [] 23 [(1,⟨[1],[],[],[(0,[(2,.sc (.k .b))])],[]⟩)] [] [] Tryz.func68 (by kernel_rfl) (eI (λ_=>by kernel_rfl))
def pF (sA me:MV):Option MV:=gA sA λcs=>
 C5 cs λF T=>
 gI .i64 me λme1=>
 bd (
 bd (kT (.agg [.i .i64 F,.i .i64 T])) λrA=>
 gB rA λx=>
 bG (!x) (
 some [.b true]) (
 bG (decide (me1<0)) (
 some [.b true]) (
 bd (sr (.agg [.i .i64 F,.i .i64 T])) λbt=>
 gI .i64 bt λx1=>
 some [.b (decide (x1<=me1))]))) λvs=>
 gC vs λm2 pE=>
 gB m2 λx2=>
 gN pE<|
 bG x2 (
 some (.dH [.agg (cV 0 0 0 0 false 0 ([]:List UInt8) ([]:List MV) ([]:List MV)),.i .i64 1])) (
 some (.dH [.agg (cV F T me1 0 false 0 ([]:List UInt8) ([]:List MV) ([]:List MV)),.i .i64 0]))
def DI:GT:=bL 35 (jG pF) Jk
theorem Fg:SG DI:=sq Jl [] 23 [(1,⟨[1,2,4],[],[],[(0,[(18,.sc (.k .b))])],[]⟩)] [] [] Tryz.func35 (by kernel_rfl) (b9 (λ_ _=>by kernel_rfl))
def rT (sA:MV):Option MV:=gA sA λcs=>
 C5 cs λF T=>
 bd (kT (.agg [.i .i64 F,.i .i64 T])) λrA=>
 gB rA λx=>
 bG (!x) (
 some (.dH [.agg (cP 0 0 ([]:List MV) ([]:List MV) ([]:List MV) false ([]:List UInt8)),.i .i64 1])) (
 some (.dH [.agg (cP F T ([]:List MV) ([]:List MV) ([]:List MV) false ([]:List UInt8)),.i .i64 0]))
def Gj:GT:=bL 36 (qE rT) DI
theorem GX:SG Gj:=sq Fg [] 10 [] [] [] Tryz.func36 (by kernel_rfl) (eI (λ_=>by kernel_rfl))
def yd (sA i:MV):Option MV:=gA sA λcs=>
 C5 cs λF T=>
 gI .i64 i λi1=>
 bd (pF (.agg [.i .i64 F,.i .i64 T]) (.i .i64 i1)) λrA=>
 gT rA λvs=>
 gC vs λm2 pE=>
 gA m2 λgQ=>
 iu gQ λSF ST Me View Has At Value Proof iV=>
 gC pE λCA lg=>
 gI .i64 CA λx=>
 gN lg<|
 bG (!decide (x=0)) (
 some (.dH [.agg (aw 0 0 0 0 false 0 ([]:List UInt8) ([]:List MV) ([]:List MV) 0 0 ([]:List MV) ([]:List MV) ([]:List MV) false ([]:List UInt8) ([]:List MV) 0),.i .i64 x])) (
 bd (rT (.agg [.i .i64 F,.i .i64 T])) λbt=>
 gT bt λkX=>
 gC kX λJd rU=>
 gA Jd λqg=>
 gY qg λyW yX gd gh qq bQ bT=>
 gC rU λm21 Ae=>
 gI .i64 m21 λx1=>
 gN Ae<|
 some (.dH [.agg (aw SF ST Me View Has At Value Proof iV yW yX gd gh qq bQ bT ([]:List MV) (-1)),.i .i64 x1]))
def Jm:GT:=bL 10 (jG yd) Gj
theorem Jn:SG Jm:=sq GX [] 28 [] [] [] Tryz.func10 (by kernel_rfl) (b9 (λ_ _=>by kernel_rfl))
def Af (a a1 a2:MV):Option MV:=gA a λcs=>
 C5 cs λF T=>
 gL a1 λlZ=>
 gL a2 λaaS=>
 bd (
 bd (kT (.agg [.i .i64 F,.i .i64 T])) λrA=>
 gB rA λx=>
 bG (!x) (
 some [.b true]) (
 cr lZ λlen=>
 bd (sr (.agg [.i .i64 F,.i .i64 T])) λbt=>
 gI .i64 bt λx1=>
 bG (!decide ((len:Int)=x1)) (
 some [.b true]) (
 cr aaS λgZ=>
 cr lZ λrS=>
 some [.b (!decide ((gZ:Int)=(rS:Int)))]))) λvs=>
 gC vs λm2 pE=>
 gB m2 λx2=>
 gN pE<|
 bG x2 (
 some (.dH [.agg (bj 0 0 ([]:List MV) ([]:List MV) ([]:List MV) ([]:List MV)),.i .i64 1])) (
 bd (jq 1 1 [.list lZ]) λca=>
 gF ca λxs=>
 bd (jq 1 16 [.list aaS]) λcG=>
 gF cG λK8=>
 cr lZ λCD=>
 bd (Loop (λCB=>
 gC CB λm3 CC=>
 gI .i64 m3 λx3=>
 gC CC λm4 Fa=>
 gI .i64 m4 λx4=>
 gC Fa λm5 Fb=>
 gL m5 λx5=>
 gC Fb λm6 Ad=>
 gL m6 λx6=>
 gC Ad λm7 yc=>
 gL m7 λx7=>
 gC yc λm8 su=>
 gL m8 λx8=>
 gC su λm9 ui=>
 gI .i64 m9 λx9=>
 gC ui λK5 uj=>
 gI .i64 K5 λqK=>
 gC uj λJc lg=>
 gL Jc λQS=>
 gC lg λCA rU=>
 gL CA λVh=>
 gC rU λJd uk=>
 gL Jd λxs4=>
 gC uk λE9 pG=>
 gL E9 λrR=>
 C5 pG λsd sn=>
 bG (decide (sn<(CD:Int))) (
 idx lZ sn λy=>
 gB y λuM=>
 bd (
 bG uM (
 some (0,[.i .i64 (cM .i64 (sd-1))])) (
 some (0,[.i .i64 sd]))) λp1=>
 cU (sh p1.1 0)<|
 gC p1.2 λBA kv=>
 gI .i64 BA λyb=>
 gN kv<|
 bd (
 idx aaS sn λy1=>
 gS y1 λBh=>
 bG (decide ((6000:Int)<(Bh.length:Int))) (
 some [.b true]) (
 some [.b (decide (yb<0))])) λkX=>
 gC kX λGV nX=>
 gB GV λxr=>
 gN nX<|
 bG xr (
 some (.inr (1,[.i .i64 0,.i .i64 0,.list ([]:List MV),.list ([]:List MV),.list ([]:List MV),.list ([]:List MV),.i .i64 1]))) (
 bd (yd (.agg [.i .i64 F,.i .i64 T]) (.i .i64 sn)) λiw=>
 gT iw λtY=>
 gC tY λWZ rV=>
 gA WZ λgQ=>
 bg gQ λAg Ah Ai ek mF Aj dQ dR cQ Ak Al bO bP dS fQ dU eH ir=>
 gC rV λm38 Jo=>
 gI .i64 m38 λMv=>
 gN Jo<|
 cr xs4 λJh=>
 cr ([.agg (aw Ag Ah Ai ek mF Aj dQ dR cQ Ak Al bO bP dS fQ dU eH ir)]:List MV) λFf=>
 cU (decide ((Jh+Ff) *256<=2^46))<|
 some (.inl [.i .i64 x3,.i .i64 x4,.list x5,.list x6,.list x7,.list x8,.i .i64 x9,.i .i64 qK,.list QS,.list Vh,.list (xs4++([.agg (aw Ag Ah Ai ek mF Aj dQ dR cQ Ak Al bO bP dS fQ dU eH ir)]:List MV)),.list rR,.i .i64 yb,.i .i64 (cM .i64 (sn+1))]))) (
 some (.inr (2,[.i .i64 x3,.i .i64 x4,.list x5,.list x6,.list x7,.list x8,.i .i64 x9,.i .i64 qK,.list QS,.list Vh,.list xs4,.list rR])))) [.i .i64 0,.i .i64 0,.list ([]:List MV),.list ([]:List MV),.list ([]:List MV),.list ([]:List MV),.i .i64 F,.i .i64 T,.list xs,.list K8,.list ([]:List MV),.list ([]:List MV),.i .i64 F,.i .i64 0]) λp=>
 bG (sh p.1 2) (
 gC p.2 λm39 amb=>
 gI .i64 m39 λx19=>
 gC amb λm40 amc=>
 gI .i64 m40 λX3=>
 gC amc λm41 amd=>
 gL m41 λX4=>
 gC amd λm42 QT=>
 gL m42 λVi=>
 gC QT λm43 amf=>
 gL m43 λx23=>
 gC amf λm44 aaV=>
 gL m44 λx24=>
 cO aaV λx25 x26 xs5 xs6 xs7 x27=>
 some (.dH [.agg (bj x25 x26 xs5 xs6 xs7 x27),.i .i64 0])) (
 cU (sh p.1 1)<|
 gC p.2 λm51 aaX=>
 gI .i64 m51 λx28=>
 gC aaX λm52 aaY=>
 gI .i64 m52 λx29=>
 gC aaY λm53 QU=>
 gL m53 λx30=>
 gC QU λm54 QV=>
 gL m54 λx31=>
 gC QV λm55 QW=>
 gL m55 λx32=>
 DF QW λx33 x34=>
 some (.dH [.agg (bj x28 x29 x30 x31 x32 x33),.i .i64 x34])))
def QX:GT:=bL 26 (Cw Af) Jm
theorem Ow:SG QX:=C6 Jn [] [] 75 [70] [] [] [(3,[0,1,3,2,4,5,6,7])] [(10,⟨[1,2,3,6,8,9,10,40,41],[33,35,71],[],[(0,[(59,.sc (.k .b))])],[33,35,71]⟩),(1,⟨[1,2,3,6],[],[],[(0,[(29,.sc (.k .b))])],[33,35,71]⟩)] [(9,⟨[1,2,3,6,8,10,40,41],[33,35,71],[],[(0,[(9,.sc (.k (.i .i64)))])],[33,35,71]⟩)] [(6,⟨[1,2,3,40],[],[(6,.box [.k (.i .i64),.k (.i .i64),.k .l,.k .l,.k .l,.k .l]),(8,.box [.k (.i .i64),.k (.i .i64),.own 33 4 true,.own 35 9 true,.own 71 40 true,.k .l]),(9,.sc (.k (.i .i64))),(41,.sc (.k (.i .i64)))],[(1,[(6,.box [.k (.i .i64),.k (.i .i64),.k .l,.k .l,.k .l,.k .l]),(7,.sc (.k (.i .i64)))]),(2,[(6,.box [.k (.i .i64),.k (.i .i64),.k .l,.k .l,.k .l,.k .l]),(8,.box [.k (.i .i64),.k (.i .i64),.own 33 4 true,.own 35 9 true,.own 71 40 true,.k .l])])],[33,35,71]⟩)] [] Tryz.func26 (by kernel_rfl) (mZ (λ_ _ _=>by kernel_rfl))
def ul (b:MV):Option MV:=gL b λb1=>
 cr b1 λlen=>
 bG (decide ((len:Int)=0)) (
 some (.dH [.i .u64 0,.list ([]:List MV),.i .i64 2])) (
 idx b1 0 λy=>
 gI .u8 y λx=>
 cU (o9 1 b1)<|
 cr b1 λgZ=>
 cU (decide ((0:Int)<=1/\(1:Int)<=(gZ:Int)/\(gZ:Int)<=(gZ:Int)))<|
 bd (
 bG (decide ((8:Int)<(cM .i64 x))) (
 some [.b true]) (
 bG (decide ((0:Int)<(cM .i64 x))) (
 cr (OF (AI 1) (aaf (AI (gZ:Int)) b1)) λrS=>
 bG (decide ((0:Int)<(rS:Int))) (
 idx (OF (AI 1) (aaf (AI (gZ:Int)) b1)) 0 λy1=>
 gI .u8 y1 λx1=>
 some [.b (decide (x1=0))]) (
 some [.b false])) (
 some [.b false]))) λvs=>
 gC vs λm yV=>
 gB m λx2=>
 gN yV<|
 bG x2 (
 some (.dH [.i .u64 0,.list ([]:List MV),.i .i64 3])) (
 cr (OF (AI 1) (aaf (AI (gZ:Int)) b1)) λCD=>
 bG (decide ((CD:Int)<(cM .i64 x))) (
 some (.dH [.i .u64 0,.list ([]:List MV),.i .i64 2])) (
 cr (OF (AI 1) (aaf (AI (gZ:Int)) b1)) λJh=>
 cU (decide ((0:Int)<=0/\(0:Int)<=(cM .i64 x)/\(cM .i64 x)<=(Jh:Int)))<|
 cr (OF (AI 0) (aaf (AI (cM .i64 x)) (OF (AI 1) (aaf (AI (gZ:Int)) b1)))) λFf=>
 bd (Loop (λwb=>
 oII .u64 .i64 wb λn x3=>
 bG (decide (x3<(Ff:Int))) (
 idx (OF (AI 0) (aaf (AI (cM .i64 x)) (OF (AI 1) (aaf (AI (gZ:Int)) b1)))) x3 λy2=>
 gI .u8 y2 λx4=>
 cU (decide ((0:Int)<=8))<|
 some (.inl [.i .u64 (bOr .u64 (cM .u64 (n *2^min (AI 8) (BY .u64))) (cM .u64 x4)),.i .i64 (cM .i64 (x3+1))])) (
 some (.inr (3,[.i .u64 n])))) [.i .u64 0,.i .i64 0]) λp=>
 cU (sh p.1 3)<|
 gC p.2 λm3 CC=>
 gI .u64 m3 λn1=>
 gN CC<|
 cU (o9 1 (OF (AI 1) (aaf (AI (gZ:Int)) b1)))<|
 cr (OF (AI 1) (aaf (AI (gZ:Int)) b1)) λWY=>
 cU (decide ((0:Int)<=(cM .i64 x)/\(cM .i64 x)<=(WY:Int)/\(WY:Int)<=(WY:Int)))<|
 some (.dH [.i .u64 n1,.list (OF (AI (cM .i64 x)) (aaf (AI (WY:Int)) (OF (AI 1) (aaf (AI (gZ:Int)) b1)))),.i .i64 0]))))
def Jp:GT:=bL 185 (qE ul) QX
theorem Jq:SG Jp:=C6 Ow [] [] 60 [] [] [] [(3,[0,1,2,3,4,5,6,7]),(14,[0,1,2,3,4,5,6])] [(4,⟨[5,6],[],[],[(0,[(19,.sc (.k .b))])],[]⟩)] [] [(10,⟨[5,6,44,45],[],[(7,.sc (.k (.i .u64))),(46,.sc (.k (.i .i64)))],[(3,[(7,.sc (.k (.i .u64)))])],[]⟩)] [] Tryz.func185 (by kernel_rfl) (eI (λ_=>by kernel_rfl))
def q8 (b:MV):Option MV:=gL b λb1=>
 bd (ul (.list b1)) λrA=>
 gT rA λvs=>
 gC vs λm yV=>
 gI .u64 m λx=>
 DF yV λx1 x2=>
 cU (decide ((0:Int)<=1))<|
 some (.dH [.i .i64 (EH .i64 (cM .i64 (aaT x (2^min (AI 1) (BY .u64)))) (cM .i64 (0-(cM .i64 (RV .u64 x 1))))),.list x1,.i .i64 x2])
def BX:GT:=bL 168 (qE q8) Jp
theorem DJ:SG BX:=sq Jq [] 24 [] [] [] Tryz.func168 (by kernel_rfl) (eI (λ_=>by kernel_rfl))
def dA (t:List MV):Option MV:=DF t λb eA=>
 bd (
 bG (decide (eA=0)) (
 bd (q8 (.list b)) λrA=>
 gT rA λvs=>
 gC vs λm2 pE=>
 gI .i64 m2 λx=>
 DF pE λx1 x2=>
 some (0,[.i .i64 x,.list x1,.i .i64 x2])) (
 some (0,[.i .i64 0,.list b,.i .i64 eA]))) λp=>
 cU (sh p.1 0)<|
 gC p.2 λm5 Fa=>
 gI .i64 m5 λn=>
 DF Fa λx3 x4=>
 some (.dX (.i .i64 n) [.list x3,.i .i64 x4])
def um:GT:=bL 126 (cl1 dA) BX
theorem ye:SG um:=fnC DJ 0 Mz [] [(0,1000000)] 24 [] [] [] [] [] [(2,⟨[0],[],[],[(0,[(2,.sc (.k (.i .i64))),(1000000,.box [.k .l,.k (.i .i64)])])],[]⟩)] [] [] Tryz.func126 (by kernel_rfl) (by kernel_rfl) (Tr λ_=>by kernel_rfl)
def pH (b most:MV):Option MV:=gL b λb1=>
 gI .i64 most λamn=>
 bd (ul (.list b1)) λrA=>
 gT rA λvs=>
 gC vs λm yV=>
 gI .u64 m λx=>
 DF yV λx1 x2=>
 bG (!decide (x2=0)) (
 some (.dH [.s ([]:List UInt8),.list ([]:List MV),.i .i64 x2])) (
 bG (decide ((cM .u64 (imax amn 0))<x)) (
 some (.dH [.s ([]:List UInt8),.list ([]:List MV),.i .i64 5])) (
 cr x1 λlen=>
 bG (decide ((cM .u64 (len:Int))<x)) (
 some (.dH [.s ([]:List UInt8),.list ([]:List MV),.i .i64 2])) (
 cr x1 λgZ=>
 cU (decide ((0:Int)<=0/\(0:Int)<=x/\x<=(gZ:Int)))<|
 Ng (OF (AI 0) (aaf (AI x) x1)) λbs=>
 cU (o9 1 x1)<|
 cr x1 λrS=>
 cU (decide ((0:Int)<=x/\x<=(rS:Int)/\(rS:Int)<=(rS:Int)))<|
 some (.dH [.s bs,.list (OF (AI x) (aaf (AI (rS:Int)) x1)),.i .i64 0]))))
def Am:GT:=bL 169 (jG pH) um
theorem CE:SG Am:=C6 ye [] [] 39 [] [] [] [(8,[0,1,2,3,4,5,6,7,8,9])] [] [] [] [] Tryz.func169 (by kernel_rfl) (b9 (λ_ _=>by kernel_rfl))
def iv (t:List MV):Option MV:=DF t λb eA=>
 bd (
 bG (decide (eA=0)) (
 bd (pH (.list b) (.i .i64 6000)) λrA=>
 gT rA λvs=>
 gC vs λm2 pE=>
 gS m2 λx=>
 DF pE λx1 x2=>
 some (0,[.s x,.list x1,.i .i64 x2])) (
 some (0,[.s ([]:List UInt8),.list b,.i .i64 eA]))) λp=>
 cU (sh p.1 0)<|
 gC p.2 λm5 Fa=>
 gS m5 λsA=>
 DF Fa λx3 x4=>
 some (.dX (.s sA) [.list x3,.i .i64 x4])
def sI:GT:=bL 127 (cl1 iv) Am
theorem wT:SG sI:=fnC CE 0 Mz [] [(0,1000000)] 24 [] [] [] [] [] [(2,⟨[0],[],[],[(0,[(2,.sc (.k .s)),(1000000,.box [.k .l,.k (.i .i64)])])],[]⟩)] [] [] Tryz.func127 (by kernel_rfl) (by kernel_rfl) (Tr λ_=>by kernel_rfl)
def jL (t:List MV):Option MV:=DF t λb eA=>
 bd (dA [.list b,.i .i64 eA]) λrA=>
 gW rA λx ls=>
 DF ls λb1 eA1=>
 gI .i64 x λx1=>
 bd (
 bG (decide (x1<0)) (
 some [.b true]) (
 some [.b (decide ((100:Int)<x1))])) λvs=>
 gC vs λm4 CC=>
 gB m4 λx2=>
 gN CC<|
 bd (
 bG x2 (
 some (0,[.list b1,.i .i64 3])) (
 some (0,[.list b1,.i .i64 eA1]))) λp=>
 cU (sh p.1 0)<|
 oLI .i64 p.2 λx3 x4=>
 bd (
 bG (!decide (x4=0)) (
 some [.b true]) (
 some [.b (decide (x1=0))])) λkX=>
 gC kX λm7 Ad=>
 gB m7 λx5=>
 gN Ad<|
 bG x5 (
 some (.dX (.list ([]:List MV)) [.list x3,.i .i64 x4])) (
 cU (decide ((0:Int)<=x1/\x1=x1/\x1 *32<=2^46))<|
 cr (aaU (AI x1) (.agg [.i .i64 0,.i .i64 0,.s ([]:List UInt8)])) λlen=>
 bd (Loop (λyc=>
 gC yc λm8 su=>
 gL m8 λp2=>
 gC su λm9 ui=>
 gI .i64 m9 λx6=>
 DF ui λx7 x8=>
 bG (decide (x6<(len:Int))) (
 bd (dA [.list x7,.i .i64 x8]) λbt=>
 gW bt λx9 ls1=>
 DF ls1 λb2 eA2=>
 gI .i64 x9 λqK=>
 idx p2 x6 λy=>
 gA y λcs=>
 lX cs λBy View Value=>
 some (.inl [.list (p2.set (AI x6) (.agg [.i .i64 qK,.i .i64 View,.s Value])),.i .i64 (cM .i64 (x6+1)),.list b2,.i .i64 eA2])) (
 some (.inr (2,[.list p2,.list x7,.i .i64 x8])))) [.list (aaU (AI x1) (.agg [.i .i64 0,.i .i64 0,.s ([]:List UInt8)])),.i .i64 0,.list x3,.i .i64 x4]) λp1=>
 cU (sh p1.1 2)<|
 gC p1.2 λBA kv=>
 gL BA λp3=>
 DF kv λrR sd=>
 bd (dA [.list rR,.i .i64 sd]) λca=>
 gW ca λsn ls2=>
 DF ls2 λb3 eA3=>
 gI .i64 sn λuM=>
 bd (iv [.list b3,.i .i64 eA3]) λcG=>
 gW cG λyb ls3=>
 DF ls3 λb4 eA4=>
 gS yb λBh=>
 cr p3 λgZ=>
 bd (Loop (λaaZ=>
 DF aaZ λp5 xr=>
 bG (decide (xr<(gZ:Int))) (
 idx p5 xr λy1=>
 gA y1 λgQ=>
 lX gQ λOx fJ bT=>
 idx (p5.set (AI xr) (.agg [.i .i64 Ox,.i .i64 uM,.s bT])) xr λy2=>
 gA y2 λqg=>
 lX qg λBy2 Gk j6=>
 some (.inl [.list ((p5.set (AI xr) (.agg [.i .i64 Ox,.i .i64 uM,.s bT])).set (AI xr) (.agg [.i .i64 By2,.i .i64 Gk,.s Bh])),.i .i64 (cM .i64 (xr+1))])) (
 some (.inr (4,[.list p5])))) [.list p3,.i .i64 0]) λp4=>
 cU (sh p4.1 4)<|
 gC p4.2 λm32 aa0=>
 gL m32 λp6=>
 gN aa0<|
 some (.dX (.list p6) [.list b4,.i .i64 eA4]))
def rW:GT:=bL 128 (cl1 jL) sI
theorem wc:SG rW:=fnC wT 0 Mz [] [(0,1000000)] 64 [] [] [] [] [(4,⟨[0,3,1000000],[],[],[(0,[(28,.sc (.k .b))])],[]⟩),(2,⟨[0,3,1000000],[],[],[(0,[(16,.sc (.k .b))])],[]⟩)] [(3,⟨[0,3],[],[],[(0,[(1000000,.box [.k .l,.k (.i .i64)])])],[]⟩)] [(14,⟨[6,7,48,1000000],[],[(4,.sc (.own 30 58 false)),(49,.sc (.k (.i .i64)))],[(4,[(4,.sc (.own 30 58 false))])],[]⟩),(8,⟨[0,32],[],[(4,.sc (.own 30 58 false)),(33,.sc (.k (.i .i64))),(1000000,.box [.k .l,.k (.i .i64)])],[(2,[(4,.sc (.own 30 58 false)),(1000000,.box [.k .l,.k (.i .i64)])])],[]⟩)] [] Tryz.func128 (by kernel_rfl) (by kernel_rfl) (Tr λ_=>by kernel_rfl)
def nY (isA:MV):Option MV:=gB isA λaqJ=>
 bG aqJ (
 some (.i .i64 1)) (
 some (.i .i64 0))
def BZ:GT:=bL 129 (qE nY) rW
theorem DK:SG BZ:=sq wc [] 4 [] [] [] Tryz.func129 (by kernel_rfl) (eI (λ_=>by kernel_rfl))
def oJ (sA:MV):Option MV:=gA sA λcs=>
 C5 cs λF T=>
 bd (jK (.agg [.i .i64 F,.i .i64 T]) (.raw (.complex .f64 4611686018427387904 4607182418800017408))) λrA=>
 gI .i64 rA λx=>
 some (.i .i64 x)
def Jr:GT:=bL 103 (qE oJ) BZ
theorem Js:SG Jr:=sq DK [] 5 [] [] [] Tryz.func103 (by kernel_rfl) (eI (λ_=>by kernel_rfl))
def nm (a:MV):Option MV:=gA a λcs=>
 lX cs λBy View Value=>
 bd (
 bG (decide ((0:Int)<=By)) (
 bG (decide ((0:Int)<=View)) (
 bG (decide (View<=100000)) (
 some [.b (decide ((Value.length:Int)<=6000))]) (
 some [.b false])) (
 some [.b false])) (
 some [.b false])) λvs=>
 gC vs λm3 CB=>
 gB m3 λx=>
 gN CB<|
 some (.b x)
def MC:GT:=bL 100 (qE nm) Jr
theorem K9:SG MC:=sq Js [] 22 [(1,⟨[1],[],[],[(0,[(2,.sc (.k .b))])],[]⟩)] [] [] Tryz.func100 (by kernel_rfl) (eI (λ_=>by kernel_rfl))
def vv (t:MV):Option MV:=gA t λcs=>
 gC cs λm yV=>
 gL m λL=>
 gN yV<|
 cr L λlen=>
 bd (Loop (λwb=>
 gC wb λm1 pE=>
 gI .i64 m1 λx=>
 gN pE<|
 bG (decide (x<(len:Int))) (
 idx L x λy=>
 gA y λgQ=>
 lX gQ λBy View Value=>
 bd (
 bd (nm (.agg [.i .i64 By,.i .i64 View,.s Value])) λrA=>
 gB rA λx1=>
 bG (!x1) (
 some [.b true]) (
 bG (decide ((0:Int)<x)) (
 idx L (cM .i64 (x-1)) λy1=>
 gA y1 λqg=>
 lX qg λOx fJ bT=>
 some [.b (decide (By<=Ox))]) (
 some [.b false]))) λvs=>
 gC vs λm8 su=>
 gB m8 λx2=>
 gN su<|
 bG x2 (
 some (.inr (1,[.b false]))) (
 some (.inl [.i .i64 (cM .i64 (x+1))]))) (
 some (.inr (2,[])))) [.i .i64 0]) λp=>
 bG (sh p.1 2) (
 gN p.2<|
 some (.b true)) (
 cU (sh p.1 1)<|
 gC p.2 λm9 ui=>
 gB m9 λx3=>
 gN ui<|
 some (.b x3))
def Gl:GT:=bL 160 (qE vv) MC
theorem GY:SG Gl:=C6 K9 [] [] 33 [] [] [] [(4,[0,1,2,3,4,5,6,7,8,9,10,11,12,13,14,15,16,17,18])] [(4,⟨[1,3,4,6,7,8],[],[],[(0,[(31,.sc (.k .b))])],[]⟩)] [] [(2,⟨[1,6,7],[],[(8,.sc (.k (.i .i64)))],[(1,[(2,.sc (.k .b))]),(2,[])],[]⟩)] [] Tryz.func160 (by kernel_rfl) (eI (λ_=>by kernel_rfl))
def pI (t view value:MV):Option MV:=gA t λcs=>
 gC cs λm yV=>
 gL m λL=>
 gN yV<|
 gI .i64 view λlh=>
 gS value λoK=>
 cr L λlen=>
 bd (Loop (λwb=>
 DF wb λout x=>
 bG (decide (x<(len:Int))) (
 idx L x λy=>
 gA y λgQ=>
 lX gQ λBy View Value=>
 bd (
 bG (decide (View=lh)) (
 some [.b (decide (Value=oK))]) (
 some [.b false])) λvs=>
 gC vs λm6 Ad=>
 gB m6 λx1=>
 gN Ad<|
 bd (
 bG x1 (
 cr out λgZ=>
 cr ([.agg [.i .i64 By,.i .i64 View,.s Value]]:List MV) λrS=>
 cU (decide ((gZ+rS) *32<=2^46))<|
 some (0,[.list (out++([.agg [.i .i64 By,.i .i64 View,.s Value]]:List MV))])) (
 some (0,[.list out]))) λp1=>
 cU (sh p1.1 0)<|
 gC p1.2 λm7 yc=>
 gL m7 λahY=>
 gN yc<|
 some (.inl [.list ahY,.i .i64 (cM .i64 (x+1))])) (
 some (.inr (2,[.list out])))) [.list ([]:List MV),.i .i64 0]) λp=>
 cU (sh p.1 2)<|
 gC p.2 λm8 su=>
 gL m8 λaqK=>
 gN su<|
 some (.list aqK)
def DL:GT:=bL 159 (Cw pI) Gl
theorem Fh:SG DL:=C6 GY [] [] 33 [29] [] [] [] [(5,⟨[1,2,7,9,11,12,13],[30],[],[(0,[(26,.sc (.k .b))])],[30]⟩)] [(6,⟨[1,2,9,11,12,13],[],[],[(0,[(7,.sc (.own 30 58 true))])],[30]⟩)] [(3,⟨[1,2,11,12],[],[(7,.sc (.own 30 58 true)),(13,.sc (.k (.i .i64)))],[(2,[(7,.sc (.own 30 58 true))])],[30]⟩)] [] Tryz.func159 (by kernel_rfl) (mZ (λ_ _ _=>by kernel_rfl))
def vz (t view value:MV):Option MV:=gA t λcs=>
 gC cs λm yV=>
 gL m λL=>
 gN yV<|
 gI .i64 view λlh=>
 gS value λoK=>
 bd (pI (.agg [.list L]) (.i .i64 lh) (.s oK)) λrA=>
 gL rA λx=>
 cr x λlen=>
 some (.i .i64 (len:Int))
def Gm:GT:=bL 161 (Cw vz) DL
theorem GZ:SG Gm:=sq Fh [] 12 [] [] [] Tryz.func161 (by kernel_rfl) (mZ (λ_ _ _=>by kernel_rfl))
def oT (sA p:MV):Option MV:=gA sA λcs=>
 C5 cs λF T=>
 gL p λp1=>
 bd (
 bd (kT (.agg [.i .i64 F,.i .i64 T])) λrA=>
 gB rA λx=>
 bG (!x) (
 some [.b true]) (
 cr p1 λlen=>
 bd (oJ (.agg [.i .i64 F,.i .i64 T])) λbt=>
 gI .i64 bt λx1=>
 bG (!decide ((len:Int)=x1)) (
 some [.b true]) (
 bd (vv (.agg [.list p1])) λca=>
 gB ca λx2=>
 some [.b (!x2)]))) λvs=>
 gC vs λm2 pE=>
 gB m2 λx3=>
 gN pE<|
 bG x3 (
 some (.b false)) (
 bd (
 cr p1 λgZ=>
 idx p1 (cM .i64 ((gZ:Int)-1)) λy=>
 gA y λgQ=>
 lX gQ λBy View Value=>
 bd (sr (.agg [.i .i64 F,.i .i64 T])) λcG=>
 gI .i64 cG λx4=>
 bG (decide (By<x4)) (
 idx p1 0 λy1=>
 gA y1 λqg=>
 lX qg λOx fJ bT=>
 idx p1 0 λy2=>
 gA y2 λxq=>
 lX xq λBy2 Gk j6=>
 cr p1 λrS=>
 bd (vz (.agg [.list p1]) (.i .i64 fJ) (.s j6)) λiw=>
 gI .i64 iw λx5=>
 some [.b (decide (x5=(rS:Int)))]) (
 some [.b false])) λkX=>
 gC kX λCA lg=>
 gB CA λx6=>
 gN lg<|
 some (.b x6))
def Gn:GT:=bL 102 (jG oT) Gm
theorem G0:SG Gn:=C6 GZ [] [] 47 [] [] [] [(3,[0,1,2,3,4,5,6,7,8,9,10,11,12,13,14,15,16,17,18,19,20,22,23,21,24,25,26])] [(3,⟨[1,2],[],[],[(0,[(4,.sc (.k .b))])],[]⟩),(1,⟨[1,2],[],[],[(0,[(20,.sc (.k .b))])],[]⟩)] [] [] [] Tryz.func102 (by kernel_rfl) (b9 (λ_ _=>by kernel_rfl))
def iA (a:MV):Option MV:=gA a λcs=>
 iu cs λSF ST Me View Has At Value Proof iV=>
 bd (
 bG (decide (View<0)) (
 some [.b true]) (
 some [.b (decide ((100000:Int)<View))])) λvs=>
 gC vs λm9 su=>
 gB m9 λx=>
 gN su<|
 bG x (
 some (.b false)) (
 bd (
 bG Has (
 bG (decide (At<0)) (
 some [.b true]) (
 bG (decide (View<At)) (
 some [.b true]) (
 some [.b (decide ((6000:Int)<(Value.length:Int)))]))) (
 some [.b false])) λkX=>
 gC kX λK5 ui=>
 gB K5 λx1=>
 gN ui<|
 bG x1 (
 some (.b false)) (
 bd (
 bG (!Has) (
 bG (!decide (At=0)) (
 some [.b true]) (
 some [.b (!decide (Value=([]:List UInt8)))])) (
 some [.b false])) λtY=>
 gC tY λJc uj=>
 gB Jc λx2=>
 gN uj<|
 bG x2 (
 some (.b false)) (
 bd (
 cr Proof λlen=>
 bG (decide ((len:Int)=0)) (
 some [.b true]) (
 bd (oT (.agg [.i .i64 SF,.i .i64 ST]) (.list Proof)) λrA=>
 gB rA λx3=>
 bG x3 (
 idx Proof 0 λy=>
 gA y λgQ=>
 lX gQ λBy fJ bT=>
 some [.b (decide (fJ<=View))]) (
 some [.b false]))) λvs3=>
 gC vs3 λK6 pG=>
 gB K6 λx4=>
 gN pG<|
 some (.b x4))))
def pJ:GT:=bL 130 (qE iA) Gn
theorem uo:SG pJ:=C6 G0 [] [] 68 [] [] [] [(7,[0,1,2,3,4,5,6,7,8,9,10,11,12,13,14,15,16,17,18,19,20,21])] [(7,⟨[1],[],[],[(0,[(2,.sc (.k .b))])],[]⟩),(5,⟨[1],[],[],[(0,[(33,.sc (.k .b))])],[]⟩),(3,⟨[1],[],[],[(0,[(12,.sc (.k .b))])],[]⟩),(1,⟨[1],[],[],[(0,[(3,.sc (.k .b))])],[]⟩)] [] [] [] Tryz.func130 (by kernel_rfl) (eI (λ_=>by kernel_rfl))
def q9 (a a1 a2:MV):Option MV:=gA a λcs=>
 C5 cs λF T=>
 gI .i64 a1 λlZ=>
 gL a2 λaaS=>
 bd (pF (.agg [.i .i64 F,.i .i64 T]) (.i .i64 lZ)) λrA=>
 gT rA λvs=>
 gC vs λm2 pE=>
 gA m2 λgQ=>
 iu gQ λSF ST Me View Has At Value Proof iV=>
 gC pE λCA lg=>
 gI .i64 CA λx=>
 gN lg<|
 bG (!decide (x=0)) (
 some (.dH [.agg (cV 0 0 0 0 false 0 ([]:List UInt8) ([]:List MV) ([]:List MV)),.i .i64 x])) (
 bd (dA [.list aaS,.i .i64 0]) λbt=>
 gW bt λx1 ls=>
 DF ls λb eA=>
 gI .i64 x1 λx2=>
 bd (dA [.list b,.i .i64 eA]) λca=>
 gW ca λx3 ls1=>
 DF ls1 λb1 eA1=>
 gI .i64 x3 λx4=>
 bd (dA [.list b1,.i .i64 eA1]) λcG=>
 gW cG λx5 ls2=>
 DF ls2 λb2 eA2=>
 gI .i64 x5 λx6=>
 bd (iv [.list b2,.i .i64 eA2]) λiw=>
 gW iw λx7 ls3=>
 DF ls3 λb3 eA3=>
 gS x7 λx8=>
 bd (jL [.list b3,.i .i64 eA3]) λlW=>
 gW lW λx9 ls4=>
 DF ls4 λb4 eA4=>
 gL x9 λqK=>
 bd (
 bG (!decide (eA4=0)) (
 some [.b true]) (
 bd (nY (.b (decide (x4=1)))) λsj=>
 gI .i64 sj λrR=>
 bG (!decide (x4=rR)) (
 some [.b true]) (
 cr b4 λlen=>
 bG (decide ((0:Int)<(len:Int))) (
 some [.b true]) (
 bd (iA (.agg (cV SF ST Me x2 (decide (x4=1)) x6 x8 qK iV))) λC4=>
 gB C4 λsd=>
 some [.b (!sd)])))) λkX=>
 gC kX λm23 QY=>
 gB m23 λsn=>
 gN QY<|
 bG sn (
 some (.dH [.agg (cV 0 0 0 0 false 0 ([]:List UInt8) ([]:List MV) ([]:List MV)),.i .i64 3])) (
 some (.dH [.agg (cV SF ST Me x2 (decide (x4=1)) x6 x8 qK iV),.i .i64 0])))
def B0:GT:=bL 63 (Cw q9) pJ
theorem DM:SG B0:=fnX uo [] [] 68 [] [] [] [] [(8,⟨[6,8,9,10,11,14],[],[],[(0,[(64,.sc (.k .b))])],[]⟩)] [] [] [] Tryz.func63 (by kernel_rfl) (mZ (λ_ _ _=>by kernel_rfl))
def uq (p:MV):Option MV:=gL p λp1=>
 cr p1 λlen=>
 bG (decide ((len:Int)=0)) (
 some (.dH [.i .i64 (-1),.s ([]:List UInt8),.b false])) (
 idx p1 0 λy=>
 gA y λcs=>
 lX cs λBy View Value=>
 idx p1 0 λy1=>
 gA y1 λgQ=>
 lX gQ λOx fJ bT=>
 some (.dH [.i .i64 View,.s bT,.b true]))
def QZ:GT:=bL 99 (qE uq) B0
theorem Oy:SG QZ:=C6 DM [] [] 16 [] [] [] [(3,[0,1,2,3,4,5,6,7,8,9,10])] [] [] [] [] Tryz.func99 (by kernel_rfl) (eI (λ_=>by kernel_rfl))
def yf (x:MV):Option MV:=gI .u64 x λx1=>
 bd (
 bG (decide ((4294967296:Int)<=x1)) (
 cU (decide ((0:Int)<=32))<|
 some (0,[.i .u64 (aaT x1 (2^min (AI 32) (BY .u64))),.i .i64 32])) (
 some (0,[.i .u64 x1,.i .i64 0]))) λp=>
 cU (sh p.1 0)<|
 oII .u64 .i64 p.2 λx2 n=>
 bd (
 bG (decide ((65536:Int)<=x2)) (
 cU (decide ((0:Int)<=16))<|
 some (0,[.i .u64 (aaT x2 (2^min (AI 16) (BY .u64))),.i .i64 (cM .i64 (n+16))])) (
 some (0,[.i .u64 x2,.i .i64 n]))) λp1=>
 cU (sh p1.1 0)<|
 oII .u64 .i64 p1.2 λx3 n1=>
 bd (
 bG (decide ((256:Int)<=x3)) (
 cU (decide ((0:Int)<=8))<|
 some (0,[.i .u64 (aaT x3 (2^min (AI 8) (BY .u64))),.i .i64 (cM .i64 (n1+8))])) (
 some (0,[.i .u64 x3,.i .i64 n1]))) λp2=>
 cU (sh p2.1 0)<|
 oII .u64 .i64 p2.2 λx4 n2=>
 cU (decide ((0:Int)<=(cM .u8 x4)/\(cM .u8 x4)<(((([0,1,2,2,3,3,3,3,4,4,4,4,4,4,4,4,5,5,5,5,5,5,5,5,5,5,5,5,5,5,5,5,6,6,6,6,6,6,6,6,6,6,6,6,6,6,6,6,6,6,6,6,6,6,6,6,6,6,6,6,6,6,6,6]:List UInt8)++([7,7,7,7,7,7,7,7,7,7,7,7,7,7,7,7,7,7,7,7,7,7,7,7,7,7,7,7,7,7,7,7,7,7,7,7,7,7,7,7,7,7,7,7,7,7,7,7,7,7,7,7,7,7,7,7,7,7,7,7,7,7,7,7]:List UInt8))++(([8,8,8,8,8,8,8,8,8,8,8,8,8,8,8,8,8,8,8,8,8,8,8,8,8,8,8,8,8,8,8,8,8,8,8,8,8,8,8,8,8,8,8,8,8,8,8,8,8,8,8,8,8,8,8,8,8,8,8,8,8,8,8,8]:List UInt8)++([8,8,8,8,8,8,8,8,8,8,8,8,8,8,8,8,8,8,8,8,8,8,8,8,8,8,8,8,8,8,8,8,8,8,8,8,8,8,8,8,8,8,8,8,8,8,8,8,8,8,8,8,8,8,8,8,8,8,8,8,8,8,8,8]:List UInt8))).length:Int)))<|
 some (.i .i64 (cM .i64 (n2+(cM .i64 ((((([0,1,2,2,3,3,3,3,4,4,4,4,4,4,4,4,5,5,5,5,5,5,5,5,5,5,5,5,5,5,5,5,6,6,6,6,6,6,6,6,6,6,6,6,6,6,6,6,6,6,6,6,6,6,6,6,6,6,6,6,6,6,6,6]:List UInt8)++([7,7,7,7,7,7,7,7,7,7,7,7,7,7,7,7,7,7,7,7,7,7,7,7,7,7,7,7,7,7,7,7,7,7,7,7,7,7,7,7,7,7,7,7,7,7,7,7,7,7,7,7,7,7,7,7,7,7,7,7,7,7,7,7]:List UInt8))++(([8,8,8,8,8,8,8,8,8,8,8,8,8,8,8,8,8,8,8,8,8,8,8,8,8,8,8,8,8,8,8,8,8,8,8,8,8,8,8,8,8,8,8,8,8,8,8,8,8,8,8,8,8,8,8,8,8,8,8,8,8,8,8,8]:List UInt8)++([8,8,8,8,8,8,8,8,8,8,8,8,8,8,8,8,8,8,8,8,8,8,8,8,8,8,8,8,8,8,8,8,8,8,8,8,8,8,8,8,8,8,8,8,8,8,8,8,8,8,8,8,8,8,8,8,8,8,8,8,8,8,8,8]:List UInt8))).getD (AI (cM .u8 x4)) 0).toNat:Int)))))
def Jt:GT:=bL 191 (qE yf) QZ
theorem Ju:SG Jt:=sq Oy [] 25 [] [(8,⟨[],[],[],[(0,[(0,.sc (.k (.i .u64))),(2,.sc (.k (.i .i64)))])],[]⟩),(5,⟨[],[],[],[(0,[(0,.sc (.k (.i .u64))),(2,.sc (.k (.i .i64)))])],[]⟩),(2,⟨[],[],[],[(0,[(0,.sc (.k (.i .u64))),(2,.sc (.k (.i .i64)))])],[]⟩)] [] Tryz.func191 (by kernel_rfl) (eI (λ_=>by kernel_rfl))
def yg (n:MV):Option MV:=gI .u64 n λn1=>
 bd (yf (.i .u64 n1)) λrA=>
 gI .i64 rA λx=>
 cU (!decide ((8:Int)=0))<|
 some (.i .i64 (cM .i64 (1+(cM .i64 (Int.tdiv (cM .i64 (x+7)) 8)))))
def Jv:GT:=bL 186 (qE yg) Jt
theorem Jw:SG Jv:=sq Ju [] 8 [] [] [] Tryz.func186 (by kernel_rfl) (eI (λ_=>by kernel_rfl))
def oe (sA:MV):Option MV:=gL sA λC7=>
 cr C7 λlen=>
 cr C7 λgZ=>
 cU (decide ((len:Int)=(C7.length:Int)/\(gZ:Int)=(C7.length:Int)))<|
 some (.clip C7)
def yL:GT:=bL 187 (qE oe) Jv
theorem BB:SG yL:=sq Jw [] 9 [] [] [] Tryz.func187 (by kernel_rfl) (eI (λ_=>by kernel_rfl))
def wU (b n:MV):Option MV:=gL b λb1=>
 gI .u64 n λn1=>
 bd (yg (.i .u64 n1)) λrA=>
 gI .i64 rA λx=>
 bd (oe (.list b1)) λbt=>
 gCl bt λxs=>
 cU (o9 1 xs)<|
 cr xs λlen=>
 cr ([.i .u8 (cM .u8 (cM .i64 (x-1)))]:List MV) λgZ=>
 cU (decide (0<gZ/\(len+gZ) *1<=2^46))<|
 bd (Loop (λyV=>
 DF yV λout i=>
 bG (decide ((0:Int)<=i)) (
 cU (decide ((0:Int)<=(cM .i64 (8 *i))))<|
 cr out λrS=>
 cr ([.i .u8 (cM .u8 (aaT n1 (2^min (AI (cM .i64 (8 *i))) (BY .u64))))]:List MV) λCD=>
 cU (decide ((rS+CD) *1<=2^46))<|
 some (.inl [.list (out++([.i .u8 (cM .u8 (aaT n1 (2^min (AI (cM .i64 (8 *i))) (BY .u64))))]:List MV)),.i .i64 (cM .i64 (i-1))])) (
 some (.inr (2,[.list out])))) [.list (xs++([.i .u8 (cM .u8 (cM .i64 (x-1)))]:List MV)),.i .i64 (cM .i64 ((cM .i64 (x-1))-1))]) λp=>
 cU (sh p.1 2)<|
 gC p.2 λm2 CB=>
 gL m2 λahY=>
 gN CB<|
 some (.fresh ahY)
def MD:GT:=bL 170 (jG wU) yL
theorem La:SG MD:=fnF BB 5 [] [] 32 [15,29] [] [] [] [] [] [(4,⟨[1],[],[(6,.sc (.own 16 5 false)),(7,.sc (.k (.i .i64)))],[(2,[(6,.sc (.own 16 5 false))])],[]⟩)] [] Tryz.func170 (by kernel_rfl) (by kernel_rfl) (b9 (λ_ _=>by kernel_rfl))
def nn (b n:MV):Option MV:=gL b λb1=>
 gI .i64 n λn1=>
 cU (decide ((0:Int)<=1))<|
 cU (decide ((0:Int)<=63))<|
 bd (wU (.list b1) (.i .u64 (EH .u64 (cM .u64 ((cM .u64 n1) *2^min (AI 1) (BY .u64))) (cM .u64 (aaT n1 (2^min (AI 63) (BY .i64))))))) λrA=>
 gF rA λxs=>
 some (.fresh xs)
def MF:GT:=bL 131 (jG nn) MD
theorem Lb:SG MF:=fnF La 5 [] [] 14 [] [] [] [] [] [] [] [] Tryz.func131 (by kernel_rfl) (by kernel_rfl) (b9 (λ_ _=>by kernel_rfl))
def ur (b sA:MV):Option MV:=gL b λb1=>
 gS sA λC7=>
 bd (wU (.list b1) (.i .u64 (cM .u64 (C7.length:Int)))) λrA=>
 gF rA λxs=>
 cr xs λlen=>
 cr (Pl C7) λgZ=>
 cU (decide ((len+gZ) *1<=2^46))<|
 some (.fresh (xs++(Pl C7)))
def Jx:GT:=bL 132 (jG ur) MF
theorem Jy:SG Jx:=fnF Lb 5 [] [] 12 [] [] [] [] [] [] [] [] Tryz.func132 (by kernel_rfl) (by kernel_rfl) (b9 (λ_ _=>by kernel_rfl))
def ra (a:MV):Option MV:=gA a λcs=>
 iu cs λSF ST Me View Has At Value Proof iV=>
 bd (nn (.list ([]:List MV)) (.i .i64 View)) λrA=>
 gF rA λxs=>
 bd (nY (.b Has)) λbt=>
 gI .i64 bt λx=>
 bd (nn (.list xs) (.i .i64 x)) λca=>
 gF ca λK8=>
 bd (nn (.list K8) (.i .i64 At)) λcG=>
 gF cG λQS=>
 cr Proof λlen=>
 bd (ur (.list QS) (.s Value)) λiw=>
 gF iw λVh=>
 bd (nn (.list Vh) (.i .i64 (len:Int))) λlW=>
 gF lW λxs4=>
 cr Proof λgZ=>
 bd (Loop (λsu=>
 DF su λb x1=>
 bG (decide (x1<(gZ:Int))) (
 idx Proof x1 λy=>
 gA y λgQ=>
 lX gQ λBy fJ bT=>
 bd (nn (.list b) (.i .i64 By)) λsj=>
 gF sj λxs5=>
 some (.inl [.list xs5,.i .i64 (cM .i64 (x1+1))])) (
 some (.inr (2,[.list b])))) [.list xs4,.i .i64 0]) λp=>
 cU (sh p.1 2)<|
 gC p.2 λE9 pG=>
 gL E9 λb1=>
 gN pG<|
 bd (uq (.list Proof)) λC4=>
 gT C4 λvs=>
 Ot vs λx2 x3 x4=>
 bd (
 bG x4 (
 bd (nn (.list b1) (.i .i64 x2)) λrA8=>
 gF rA8 λxs6=>
 bd (ur (.list xs6) (.s x3)) λrA9=>
 gF rA9 λxs7=>
 some (0,[.list xs7])) (
 some (0,[.list b1]))) λp1=>
 cU (sh p1.1 0)<|
 gC p1.2 λGV nX=>
 gL GV λb2=>
 gN nX<|
 some (.list b2)
def B1:GT:=bL 64 (qE ra) Jx
theorem DN:SG B1:=C6 Jy [] [] 53 [] [] [] [(1,[0,1,3,4,7,8,2,5,6,9,10]),(2,[0,1,2,4,5,6,3,7,8])] [] [(10,⟨[6,7],[],[],[(0,[(3,.sc (.own 26 5 true))])],[11,15,18,22,26,37,49,51]⟩)] [(4,⟨[1,28,29],[],[(3,.sc (.own 26 5 true)),(30,.sc (.k (.i .i64)))],[(2,[(3,.sc (.own 26 5 true))])],[11,15,18,22,26,37,49,51]⟩)] [] Tryz.func64 (by kernel_rfl) (eI (λ_=>by kernel_rfl))
def s6 (sA i n:MV):Option MV:=gA sA λcs=>
 C5 cs λF T=>
 gI .i64 i λi1=>
 gA n λgQ=>
 bg gQ λAg Ah Ai ek mF Aj dQ dR cQ Ak Al bO bP dS fQ dU eH ir=>
 bd (ra (.agg (cV Ag Ah Ai ek mF Aj dQ dR cQ))) λrA=>
 gL rA λx=>
 bd (q9 (.agg [.i .i64 F,.i .i64 T]) (.i .i64 i1) (.list x)) λbt=>
 gT bt λvs=>
 gC vs λTu rV=>
 gA Tu λqg=>
 iu qg λSF ST Me View Has At Value Proof iV=>
 gC rV λm30 Jz=>
 gI .i64 m30 λx1=>
 gN Jz<|
 bd (rT (.agg [.i .i64 F,.i .i64 T])) λca=>
 gT ca λkX=>
 gC kX λm31 Q0=>
 gA m31 λxq=>
 gY xq λyW yX gd gh qq bQ bT=>
 gC Q0 λm39 Jo=>
 gI .i64 m39 λx2=>
 gN Jo<|
 some (.agg (aw SF ST Me View Has At Value Proof iV yW yX gd gh qq bQ bT ([]:List MV) View))
def DO:GT:=bL 22 (Cw s6) B1
theorem Fi:SG DO:=C6 DN [] [] 30 [] [] [] [(1,[0,1,2,3,4,5,6,7,8,9,10,11])] [] [] [] [] Tryz.func22 (by kernel_rfl) (mZ (λ_ _ _=>by kernel_rfl))
def fg (c i bad:MV):Option MV:=gA c λcs=>
 cO cs λSF ST bY Want N aV=>
 gI .i64 i λi1=>
 gB bad λaqL=>
 bd (
 bG (decide ((0:Int)<=i1)) (
 cr bY λlen=>
 bG (decide (i1<(len:Int))) (
 idx bY i1 λy=>
 gB y λx=>
 some [.b (decide (x=aqL))]) (
 some [.b false])) (
 some [.b false])) λvs=>
 gC vs λm6 Fb=>
 gB m6 λx1=>
 gN Fb<|
 some (.b x1)
def Gp:GT:=bL 73 (Cw fg) DO
theorem G3:SG Gp:=sq Fi [] 25 [(1,⟨[1,2,3],[],[],[(0,[(6,.sc (.k .b))])],[]⟩)] [] [] Tryz.func73 (by kernel_rfl) (mZ (λ_ _ _=>by kernel_rfl))
def jk (s1 s2:MV):Option MV:=gL s1 λTv=>
 gL s2 λaa2=>
 cr Tv λlen=>
 cr aa2 λgZ=>
 bG (!decide ((len:Int)=(gZ:Int))) (
 some (.b false)) (
 cr Tv λrS=>
 bd (Loop (λyV=>
 gC yV λm wb=>
 gI .i64 m λx=>
 gN wb<|
 bG (decide (x<(rS:Int))) (
 idx Tv x λy=>
 gA y λcs=>
 lX cs λBy View Value=>
 idx aa2 x λy1=>
 gA y1 λgQ=>
 lX gQ λOx fJ bT=>
 bG (!((decide (By=Ox))&&((decide (View=fJ))&&(decide (Value=bT))))) (
 some (.inr (1,[.b false]))) (
 some (.inl [.i .i64 (cM .i64 (x+1))]))) (
 some (.inr (2,[])))) [.i .i64 0]) λp=>
 bG (sh p.1 2) (
 gN p.2<|
 some (.b true)) (
 cU (sh p.1 1)<|
 gC p.2 λm7 yc=>
 gB m7 λx1=>
 gN yc<|
 some (.b x1)))
def qt:GT:=bL 180 (jG jk) Gp
theorem uQ:SG qt:=C6 G3 [] [] 26 [] [] [] [(6,[0,1,2,3,4,5,6,7,8])] [] [] [(4,⟨[0,1,12],[],[(13,.sc (.k (.i .i64)))],[(1,[(4,.sc (.k .b))]),(2,[])],[]⟩)] [] Tryz.func180 (by kernel_rfl) (b9 (λ_ _=>by kernel_rfl))
def yh (a b:MV):Option MV:=gL a λa1=>
 gL b λb1=>
 bd (jk (.list a1) (.list b1)) λrA=>
 gB rA λx=>
 some (.b x)
def JA:GT:=bL 152 (jG yh) qt
theorem JB:SG JA:=sq uQ [] 8 [] [] [] Tryz.func152 (by kernel_rfl) (b9 (λ_ _=>by kernel_rfl))
def rb (x y:MV):Option MV:=gA x λcs=>
 ig cs λBy je Has View Value Proof=>
 gA y λgQ=>
 ig gQ λOx Xa DP fJ bT oL=>
 bd (
 bG (decide (By=Ox)) (
 bG (decide (je=Xa)) (
 bG (decide (Has=DP)) (
 bG (decide (View=fJ)) (
 bG (decide (Value=bT)) (
 bd (yh (.list Proof) (.list oL)) λrA=>
 gB rA λx1=>
 some [.b x1]) (
 some [.b false])) (
 some [.b false])) (
 some [.b false])) (
 some [.b false])) (
 some [.b false])) λvs=>
 gC vs λCA lg=>
 gB CA λx2=>
 gN lg<|
 some (.b x2)
def we:GT:=bL 176 (jG rb) JA
theorem DQ:SG we:=sq JB [] 45 [(1,⟨[2,3],[],[],[(0,[(4,.sc (.k .b))])],[]⟩)] [] [] Tryz.func176 (by kernel_rfl) (b9 (λ_ _=>by kernel_rfl))
def cW:GT:=we
theorem gK (x0 x1:MV):cW 176 [x0,x1]=rb x0 x1:=by kernel_rfl
def cb (s1 s2 eq:MV):Option MV:=gL s1 λTv=>
 gL s2 λaa2=>
 gR eq λeq1=>
 cr Tv λlen=>
 cr aa2 λgZ=>
 bG (!decide ((len:Int)=(gZ:Int))) (
 some (.b false)) (
 cr Tv λrS=>
 bd (Loop (λyV=>
 gC yV λm wb=>
 gI .i64 m λx=>
 gN wb<|
 bG (decide (x<(rS:Int))) (
 idx Tv x λy=>
 gA y λcs=>
 ig cs λBy je Has View Value Proof=>
 idx aa2 x λy1=>
 gA y1 λgQ=>
 ig gQ λOx Xa DP fJ bT oL=>
 Ui eq1 λfn cap=>
 cU (!gv fn)<|
 bd (cW fn ([.agg (fU By je Has View Value Proof),.agg (fU Ox Xa DP fJ bT oL)]++cap)) λrA=>
 gB rA λx1=>
 bG (!x1) (
 some (.inr (1,[.b false]))) (
 some (.inl [.i .i64 (cM .i64 (x+1))]))) (
 some (.inr (2,[])))) [.i .i64 0]) λp=>
 bG (sh p.1 2) (
 gN p.2<|
 some (.b true)) (
 cU (sh p.1 1)<|
 gC p.2 λJd uk=>
 gB Jd λx2=>
 gN uk<|
 some (.b x2)))
def fh:GT:=bL 175 (Cw cb) we
theorem jr:SG fh:=sq DQ [] 32 [] [] [(4,⟨[1,2,15,16],[],[(17,.sc (.k (.i .i64)))],[(1,[(6,.sc (.k .b))]),(2,[])],[]⟩)] Tryz.func175 (by kernel_rfl) (mZ (λ_ _ _=>by kernel_rfl))
def vA (a b:MV):Option MV:=gL a λa1=>
 gL b λb1=>
 bd (cb (.list a1) (.list b1) (.func 176 [])) λrA=>
 gB rA λx=>
 some (.b x)
def Gq:GT:=bL 144 (jG vA) fh
theorem G4:SG Gq:=sq jr [] 8 [] [] [] Tryz.func144 (by kernel_rfl) (b9 (λ_ _=>by kernel_rfl))
def kf (m c:MV):Option MV:=gA m λcs=>
 dZ cs λKind eE View Value fN iW eo dy Proof KK wg wh nZ j7 jt=>
 gP c λgQ=>
 ig gQ λBy je Has fJ bT oL=>
 bd (
 bG (decide (Kind=4)) (
 bd (vA (.list ([.agg (fU KK wg wh nZ j7 jt)]:List MV)) (.list ([.agg (fU By je Has fJ bT oL)]:List MV))) λrA=>
 gB rA λx=>
 some [.b x]) (
 some [.b false])) λvs=>
 gC vs λm22 Ae=>
 gB m22 λx1=>
 gN Ae<|
 some (.b x1)
def sJ:GT:=bL 143 (jG kf) Gq
theorem wV:SG sJ:=C6 G4 [[.i .i64,.i .i64,.b,.i .i64,.s,.l]] [] 15 [10,12] [] [] [] [(1,⟨[1,2],[],[],[(0,[(3,.sc (.k .b))])],[]⟩)] [] [] [] Tryz.func143 (by kernel_rfl) (b9 (λ_ _=>by kernel_rfl))
def lR (m c:MV):Option MV:=gA m λcs=>
 dZ cs λKind eE View Value fN iW eo dy Proof KK wg wh nZ j7 jt=>
 gP c λgQ=>
 lX gQ λBy fJ bT=>
 bd (
 bG (decide (Kind=2)) (
 some [.b ((decide (iW=By))&&((decide (eo=fJ))&&(decide (dy=bT))))]) (
 some [.b false])) λvs=>
 gC vs λWZ kv=>
 gB WZ λx=>
 gN kv<|
 some (.b x)
def pK:GT:=bL 179 (jG lR) sJ
theorem yY:SG pK:=sq wV [[.i .i64,.i .i64,.s]] 13 [(1,⟨[1,2],[],[],[(0,[(3,.sc (.k .b))])],[]⟩)] [] [] Tryz.func179 (by kernel_rfl) (b9 (λ_ _=>by kernel_rfl))
def et:GT:=pK
theorem fK (x0 x1:MV):et 143 [x0,x1]=kf x0 x1:=by kernel_rfl
theorem lJ (x0 x1:MV):et 179 [x0,x1]=lR x0 x1:=by kernel_rfl
def ik (sA f:MV):Option MV:=gL sA λC7=>
 gR f λf1=>
 cr C7 λlen=>
 bd (Loop (λyV=>
 gC yV λm wb=>
 gI .i64 m λx=>
 gN wb<|
 bG (decide (x<(len:Int))) (
 idx C7 x λy=>
 gA y λcs=>
 dZ cs λKind eE View Value fN iW eo dy Proof KK wg wh nZ j7 jt=>
 Ui f1 λfn cap=>
 cU (!gv fn)<|
 bd (et fn ([.agg (aF Kind eE View Value fN iW eo dy Proof KK wg wh nZ j7 jt)]++cap)) λrA=>
 gB rA λx1=>
 bG x1 (
 some (.inr (1,[.i .i64 x]))) (
 some (.inl [.i .i64 (cM .i64 (x+1))]))) (
 some (.inr (2,[])))) [.i .i64 0]) λp=>
 bG (sh p.1 2) (
 gN p.2<|
 some (.i .i64 (-1))) (
 cU (sh p.1 1)<|
 gC p.2 λOq mG=>
 gI .i64 Oq λx2=>
 gN mG<|
 some (.i .i64 x2))
def oU:GT:=bL 177 (jG ik) pK
theorem s7:SG oU:=sq yY [] 19 [] [] [(2,⟨[0,1,7],[],[(8,.sc (.k (.i .i64)))],[(1,[(4,.sc (.k (.i .i64)))]),(2,[])],[]⟩)] Tryz.func177 (by kernel_rfl) (b9 (λ_ _=>by kernel_rfl))
def dj (sA f:MV):Option MV:=gL sA λC7=>
 gR f λf1=>
 bd (ik (.list C7) f1) λrA=>
 gI .i64 rA λx=>
 some (.b (decide ((0:Int)<=x)))
def mH:GT:=bL 145 (jG dj) oU
theorem qM:SG mH:=sq s7 [] 9 [] [] [] Tryz.func145 (by kernel_rfl) (b9 (λ_ _=>by kernel_rfl))
def oh (c a:MV):Option MV:=gA c λcs=>
 cO cs λSF ST bY Want N aV=>
 gA a λgQ=>
 lX gQ λBy View Value=>
 bd (
 bd (fg (.agg (bj SF ST bY Want N aV)) (.i .i64 By) (.b true)) λrA=>
 gB rA λx=>
 bG x (
 some [.b true]) (
 bd (dj (.list aV) (.func 179 [.rp [.i .i64 By,.i .i64 View,.s Value]])) λbt=>
 gB bt λx1=>
 some [.b x1])) λvs=>
 gC vs λm9 su=>
 gB m9 λx2=>
 gN su<|
 some (.b x2)
def yM:GT:=bL 148 (jG oh) mH
theorem BC:SG yM:=sq qM [] 17 [(2,⟨[2,3,5],[],[],[(0,[(4,.sc (.k .b))])],[]⟩)] [] [] Tryz.func148 (by kernel_rfl) (b9 (λ_ _=>by kernel_rfl))
def kg (a c:MV):Option MV:=gA a λcs=>
 lX cs λBy View Value=>
 gP c λgQ=>
 cO gQ λSF ST bY Want N aV=>
 bd (oh (.agg (bj SF ST bY Want N aV)) (.agg [.i .i64 By,.i .i64 View,.s Value])) λrA=>
 gB rA λx=>
 some (.b (!x))
def nL:GT:=bL 147 (jG kg) yM
theorem wW:SG nL:=sq BC [[.i .i64,.i .i64,.l,.l,.l,.l]] 8 [] [] [] Tryz.func147 (by kernel_rfl) (b9 (λ_ _=>by kernel_rfl))
def fq:GT:=nL
theorem kw (x0 x1:MV):fq 147 [x0,x1]=kg x0 x1:=by kernel_rfl
def fV (sA f:MV):Option MV:=gL sA λC7=>
 gR f λf1=>
 cr C7 λlen=>
 bd (Loop (λyV=>
 gC yV λm wb=>
 gI .i64 m λx=>
 gN wb<|
 bG (decide (x<(len:Int))) (
 idx C7 x λy=>
 gA y λcs=>
 lX cs λBy View Value=>
 Ui f1 λfn cap=>
 cU (!gv fn)<|
 bd (fq fn ([.agg [.i .i64 By,.i .i64 View,.s Value]]++cap)) λrA=>
 gB rA λx1=>
 bG x1 (
 some (.inr (1,[.i .i64 x]))) (
 some (.inl [.i .i64 (cM .i64 (x+1))]))) (
 some (.inr (2,[])))) [.i .i64 0]) λp=>
 bG (sh p.1 2) (
 gN p.2<|
 some (.i .i64 (-1))) (
 cU (sh p.1 1)<|
 gC p.2 λm4 Fa=>
 gI .i64 m4 λx2=>
 gN Fa<|
 some (.i .i64 x2))
def ny:GT:=bL 178 (jG fV) nL
theorem rX:SG ny:=sq wW [] 19 [] [] [(2,⟨[0,1,7],[],[(8,.sc (.k (.i .i64)))],[(1,[(4,.sc (.k (.i .i64)))]),(2,[])],[]⟩)] Tryz.func178 (by kernel_rfl) (b9 (λ_ _=>by kernel_rfl))
def eL (sA f:MV):Option MV:=gL sA λC7=>
 gR f λf1=>
 bd (fV (.list C7) f1) λrA=>
 gI .i64 rA λx=>
 some (.b (decide ((0:Int)<=x)))
def li:GT:=bL 146 (jG eL) ny
theorem pL:SG li:=sq rX [] 9 [] [] [] Tryz.func146 (by kernel_rfl) (b9 (λ_ _=>by kernel_rfl))
def il (c lA:MV):Option MV:=gA c λcs=>
 cO cs λSF ST bY Want N aV=>
 gL lA λMG=>
 bd (eL (.list MG) (.func 147 [.rp (bj SF ST bY Want N aV)])) λrA=>
 gB rA λx=>
 some (.b (!x))
def vB:GT:=bL 81 (jG il) li
theorem yZ:SG vB:=sq pL [] 9 [] [] [] Tryz.func81 (by kernel_rfl) (b9 (λ_ _=>by kernel_rfl))
def lS (c rA:MV):Option MV:=gA c λcs=>
 cO cs λSF ST bY Want N aV=>
 gA rA λgQ=>
 ig gQ λBy je Has View Value Proof=>
 bd (
 bd (fg (.agg (bj SF ST bY Want N aV)) (.i .i64 By) (.b true)) λbt=>
 gB bt λx=>
 bG x (
 bd (il (.agg (bj SF ST bY Want N aV)) (.list Proof)) λca=>
 gB ca λx1=>
 bG x1 (
 some [.b true]) (
 bd (dj (.list aV) (.func 143 [.rp (fU By je Has View Value Proof)])) λcG=>
 gB cG λx2=>
 some [.b x2])) (
 bd (dj (.list aV) (.func 143 [.rp (fU By je Has View Value Proof)])) λiw=>
 gB iw λx3=>
 some [.b x3])) λvs=>
 gC vs λCA lg=>
 gB CA λx4=>
 gN lg<|
 some (.b x4)
def vC:GT:=bL 80 (jG lS) vB
theorem y8:SG vC:=sq yZ [] 23 [(2,⟨[2,3,5],[],[],[(0,[(4,.sc (.k .b))])],[]⟩)] [] [] Tryz.func80 (by kernel_rfl) (b9 (λ_ _=>by kernel_rfl))
def s8 (rA c:MV):Option MV:=gA rA λcs=>
 ig cs λBy je Has View Value Proof=>
 gP c λgQ=>
 cO gQ λSF ST bY Want N aV=>
 bd (lS (.agg (bj SF ST bY Want N aV)) (.agg (fU By je Has View Value Proof))) λbt=>
 gB bt λx=>
 some (.b (!x))
def yi:GT:=bL 79 (jG s8) vC
theorem Fj:SG yi:=sq y8 [[.i .i64,.i .i64,.l,.l,.l,.l]] 8 [] [] [] Tryz.func79 (by kernel_rfl) (b9 (λ_ _=>by kernel_rfl))
def ft:GT:=yi
theorem np (x0 x1:MV):ft 79 [x0,x1]=s8 x0 x1:=by kernel_rfl
def fW (sA f:MV):Option MV:=gL sA λC7=>
 gR f λf1=>
 cr C7 λlen=>
 bd (Loop (λyV=>
 gC yV λm wb=>
 gI .i64 m λx=>
 gN wb<|
 bG (decide (x<(len:Int))) (
 idx C7 x λy=>
 gA y λcs=>
 ig cs λBy je Has View Value Proof=>
 Ui f1 λfn cap=>
 cU (!gv fn)<|
 bd (ft fn ([.agg (fU By je Has View Value Proof)]++cap)) λrA=>
 gB rA λx1=>
 bG x1 (
 some (.inr (1,[.i .i64 x]))) (
 some (.inl [.i .i64 (cM .i64 (x+1))]))) (
 some (.inr (2,[])))) [.i .i64 0]) λp=>
 bG (sh p.1 2) (
 gN p.2<|
 some (.i .i64 (-1))) (
 cU (sh p.1 1)<|
 gC p.2 λm7 yc=>
 gI .i64 m7 λx2=>
 gN yc<|
 some (.i .i64 x2))
def nz:GT:=bL 142 (jG fW) yi
theorem rY:SG nz:=sq Fj [] 19 [] [] [(2,⟨[0,1,7],[],[(8,.sc (.k (.i .i64)))],[(1,[(4,.sc (.k (.i .i64)))]),(2,[])],[]⟩)] Tryz.func142 (by kernel_rfl) (b9 (λ_ _=>by kernel_rfl))
def eM (sA f:MV):Option MV:=gL sA λC7=>
 gR f λf1=>
 bd (fW (.list C7) f1) λrA=>
 gI .i64 rA λx=>
 some (.b (decide ((0:Int)<=x)))
def lj:GT:=bL 78 (jG eM) nz
theorem pM:SG lj:=sq rY [] 9 [] [] [] Tryz.func78 (by kernel_rfl) (b9 (λ_ _=>by kernel_rfl))
def yj (c m:MV):Option MV:=gA c λcs=>
 cO cs λSF ST bY Want N aV=>
 gA m λgQ=>
 dZ gQ λKind eE View Value fN iW eo dy Proof KK wg wh nZ j7 jt=>
 bG (decide (Kind=1)) (
 bd (
 bd (fg (.agg (bj SF ST bY Want N aV)) (.i .i64 eE) (.b true)) λrA=>
 gB rA λx=>
 bG x (
 bd (eM (.list fN) (.func 79 [.rp (bj SF ST bY Want N aV)])) λbt=>
 gB bt λx1=>
 some [.b (!x1)]) (
 some [.b false])) λvs=>
 gC vs λm22 Ae=>
 gB m22 λx2=>
 gN Ae<|
 some (.b x2)) (
 bG (decide (Kind=2)) (
 bd (fg (.agg (bj SF ST bY Want N aV)) (.i .i64 iW) (.b true)) λca=>
 gB ca λx3=>
 some (.b x3)) (
 bG (decide (Kind=3)) (
 bd (
 bd (fg (.agg (bj SF ST bY Want N aV)) (.i .i64 eE) (.b true)) λcG=>
 gB cG λx4=>
 bG x4 (
 bd (il (.agg (bj SF ST bY Want N aV)) (.list Proof)) λiw=>
 gB iw λx5=>
 some [.b x5]) (
 some [.b false])) λkX=>
 gC kX λm23 aa3=>
 gB m23 λx6=>
 gN aa3<|
 some (.b x6)) (
 bG (decide (Kind=4)) (
 bd (
 bd (fg (.agg (bj SF ST bY Want N aV)) (.i .i64 KK) (.b true)) λlW=>
 gB lW λx7=>
 bG x7 (
 bd (il (.agg (bj SF ST bY Want N aV)) (.list jt)) λsj=>
 gB sj λx8=>
 some [.b x8]) (
 some [.b false])) λtY=>
 gC tY λm24 QY=>
 gB m24 λx9=>
 gN QY<|
 some (.b x9)) (
 bG (decide (Kind=5)) (
 bd (fg (.agg (bj SF ST bY Want N aV)) (.i .i64 eE) (.b true)) λC4=>
 gB C4 λqK=>
 some (.b qK)) (
 some (.b false))))))
def JC:GT:=bL 31 (jG yj) lj
theorem JD:SG JC:=C6 pM [] [] 59 [] [] [(1,[2])] [] [(3,⟨[2,3],[],[],[(0,[(4,.sc (.k .b))])],[]⟩),(7,⟨[2,3],[],[],[(0,[(4,.sc (.k .b))])],[]⟩),(9,⟨[2,3],[],[],[(0,[(4,.sc (.k .b))])],[]⟩)] [] [] [] Tryz.func31 (by kernel_rfl) (b9 (λ_ _=>by kernel_rfl))
def eU (sA:MV):Option MV:=gL sA λC7=>
 cr C7 λlen=>
 cr C7 λgZ=>
 cU (decide ((len:Int)=(C7.length:Int)/\(gZ:Int)=(C7.length:Int)))<|
 some (.clip C7)
def uu:GT:=bL 140 (qE eU) JC
theorem yk:SG uu:=sq JD [] 9 [] [] [] Tryz.func140 (by kernel_rfl) (eI (λ_=>by kernel_rfl))
def mI (sA view:MV):Option MV:=gA sA λcs=>
 C5 cs λF T=>
 gI .i64 view λlh=>
 bd (sr (.agg [.i .i64 F,.i .i64 T])) λrA=>
 gI .i64 rA λx=>
 cU (!decide (x=0))<|
 some (.i .i64 (Int.tmod (imax lh 0) x))
def Gr:GT:=bL 42 (jG mI) uu
theorem G5:SG Gr:=sq yk [] 10 [] [] [] Tryz.func42 (by kernel_rfl) (b9 (λ_ _=>by kernel_rfl))
def n4 (rA:MV):Option MV:=gA rA λcs=>
 ig cs λBy je Has View Value Proof=>
 bd (uq (.list Proof)) λbt=>
 gT bt λvs=>
 Ot vs λx x1 x2=>
 bG (!x2) (
 some (.i .i64 (-1))) (
 some (.i .i64 x))
def B2:GT:=bL 123 (qE n4) Gr
theorem DR:SG B2:=sq G5 [] 16 [] [] [] Tryz.func123 (by kernel_rfl) (eI (λ_=>by kernel_rfl))
def yl (sA:MV):Option MV:=gA sA λcs=>
 C5 cs λF T=>
 bd (jK (.agg [.i .i64 F,.i .i64 T]) (.raw (.complex .f64 4607182418800017408 4607182418800017408))) λrA=>
 gI .i64 rA λx=>
 some (.i .i64 x)
def JE:GT:=bL 124 (qE yl) B2
theorem JF:SG JE:=sq DR [] 5 [] [] [] Tryz.func124 (by kernel_rfl) (eI (λ_=>by kernel_rfl))
def pN (a a1:MV):Option MV:=gA a λcs=>
 C5 cs λF T=>
 gL a1 λlZ=>
 cr lZ λlen=>
 bd (Loop (λpE=>
 gC pE λm2 CB=>
 gI .i64 m2 λx=>
 gC CB λm3 CC=>
 gS m3 λx1=>
 gC CC λm4 Fa=>
 gI .i64 m4 λx2=>
 gN Fa<|
 bG (decide (x2<(len:Int))) (
 idx lZ x2 λy=>
 gA y λgQ=>
 ig gQ λBy je Has View Value Proof=>
 bd (n4 (.agg (fU By je Has View Value Proof))) λrA=>
 gI .i64 rA λx3=>
 bd (
 bG (decide (x<x3)) (
 idx Proof 0 λy1=>
 gA y1 λqg=>
 lX qg λOx fJ bT=>
 some (0,[.i .i64 x3,.s bT])) (
 some (0,[.i .i64 x,.s x1]))) λp1=>
 cU (sh p1.1 0)<|
 gC p1.2 λE9 pG=>
 gI .i64 E9 λx4=>
 gC pG λK6 wX=>
 gS K6 λx5=>
 gN wX<|
 some (.inl [.i .i64 x4,.s x5,.i .i64 (cM .i64 (x2+1))])) (
 some (.inr (2,[.i .i64 x,.s x1])))) [.i .i64 (-1),.s ([]:List UInt8),.i .i64 0]) λp=>
 cU (sh p.1 2)<|
 gC p.2 λOq mG=>
 gI .i64 Oq λx6=>
 gC mG λBA kv=>
 gS BA λx7=>
 gN kv<|
 cr lZ λgZ=>
 bd (Loop (λnX=>
 DF nX λes x8=>
 bG (decide (x8<(gZ:Int))) (
 idx lZ x8 λy2=>
 gA y2 λxq=>
 ig xq λBy2 Xa DP Gk j6 oL=>
 bd (
 bG DP (
 some [.b (decide (x6<Gk))]) (
 some [.b false])) λvs=>
 gC vs λm26 Jj=>
 gB m26 λx9=>
 gN Jj<|
 bd (
 bG x9 (
 some (0,[.list (tJ (nE es ([.s j6]:List MV) (.i .i64 0)) (cy es ([.s j6]:List MV)) (.i .i64 (cM .i64 ((nN es ([.s j6]:List MV))+1))))])) (
 some (0,[.list es]))) λp3=>
 cU (sh p3.1 0)<|
 gC p3.2 λm27 QO=>
 gL m27 λes1=>
 gN QO<|
 some (.inl [.list es1,.i .i64 (cM .i64 (x8+1))])) (
 some (.inr (4,[.list es])))) [.list ([]:List MV),.i .i64 0]) λp2=>
 cU (sh p2.1 4)<|
 gC p2.2 λm28 Jz=>
 gL m28 λes2=>
 gN Jz<|
 bd (uc (λm29=>Qq m29 λkey n=>
 bd (yl (.agg [.i .i64 F,.i .i64 T])) λbt=>
 gI .i64 bt λqK=>
 bG (decide (qK<=n)) (
 some (.inr (1,[.s key,.b true]))) (
 some (.inl ()))) (
 some (6,[])) es2) λp4=>
 bG (sh p4.1 6) (
 gN p4.2<|
 some (.dH [.s x7,.b (decide (((-1):Int)<x6))])) (
 cU (sh p4.1 1)<|
 gC p4.2 λm30 Q0=>
 gS m30 λrR=>
 gC Q0 λm31 aa4=>
 gB m31 λsd=>
 gN aa4<|
 some (.dH [.s rR,.b sd]))
def DT:GT:=bL 60 (jG pN) JE
theorem Fk:SG DT:=fnX JF [] [] 70 [] [] [] [(7,[0,1,2,3,4,5,6,7])] [(13,⟨[2,6,7,11,13,35,36,37],[],[],[(0,[(48,.sc (.k .b))])],[]⟩)] [(14,⟨[2,6,7,13,35,36,37],[],[],[(0,[(11,.mp ⟨false,[.s],false⟩)])],[]⟩),(7,⟨[1,2,9,10,16,17,18],[],[],[(0,[(6,.sc (.k (.i .i64))),(7,.sc (.k .s))])],[]⟩)] [(17,⟨[2,6,7,11,56],[],[],[(1,[(4,.sc (.k .s)),(5,.sc (.k .b))]),(6,[])],[]⟩),(11,⟨[2,6,7,35,36],[],[(11,.mp ⟨false,[.s],false⟩),(37,.sc (.k (.i .i64)))],[(4,[(11,.mp ⟨false,[.s],false⟩)])],[]⟩),(3,⟨[1,2,16,17],[],[(6,.sc (.k (.i .i64))),(7,.sc (.k .s)),(18,.sc (.k (.i .i64)))],[(2,[(6,.sc (.k (.i .i64))),(7,.sc (.k .s))])],[]⟩)] [] Tryz.func60 (by kernel_rfl) (b9 (λ_ _=>by kernel_rfl))
def wY (sA:MV):Option MV:=gA sA λcs=>
 C5 cs λF T=>
 bd (jK (.agg [.i .i64 F,.i .i64 T]) (.raw (.complex .f64 4611686018427387904 4611686018427387904))) λrA=>
 gI .i64 rA λx=>
 some (.i .i64 x)
def MH:GT:=bL 58 (qE wY) DT
theorem Lc:SG MH:=sq Fk [] 5 [] [] [] Tryz.func58 (by kernel_rfl) (eI (λ_=>by kernel_rfl))
def uv (a a1:MV):Option MV:=gA a λcs=>
 C5 cs λF T=>
 gA a1 λgQ=>
 ig gQ λBy je Has View Value Proof=>
 bd (
 bd (kT (.agg [.i .i64 F,.i .i64 T])) λrA=>
 gB rA λx=>
 bG (!x) (
 some [.b true]) (
 bG (decide (By<0)) (
 some [.b true]) (
 bd (sr (.agg [.i .i64 F,.i .i64 T])) λbt=>
 gI .i64 bt λx1=>
 bG (decide (x1<=By)) (
 some [.b true]) (
 bG (decide (je<1)) (
 some [.b true]) (
 some [.b (decide ((100000:Int)<je))]))))) λvs=>
 gC vs λm8 yc=>
 gB m8 λx2=>
 gN yc<|
 bG x2 (
 some (.b false)) (
 bd (
 bG (!Has) (
 bG (!decide (View=0)) (
 some [.b true]) (
 some [.b (!decide (Value=([]:List UInt8)))])) (
 some [.b false])) λkX=>
 gC kX λm9 su=>
 gB m9 λx3=>
 gN su<|
 bG x3 (
 some (.b false)) (
 bd (
 bG Has (
 bG (decide (View<0)) (
 some [.b true]) (
 bG (decide (je<=View)) (
 some [.b true]) (
 some [.b (decide ((6000:Int)<(Value.length:Int)))]))) (
 some [.b false])) λtY=>
 gC tY λK5 ui=>
 gB K5 λx4=>
 gN ui<|
 bG x4 (
 some (.b false)) (
 bd (
 cr Proof λlen=>
 bG (decide ((len:Int)=0)) (
 some [.b true]) (
 bd (oT (.agg [.i .i64 F,.i .i64 T]) (.list Proof)) λca=>
 gB ca λx5=>
 bG x5 (
 bd (n4 (.agg (fU By je Has View Value Proof))) λcG=>
 gI .i64 cG λx6=>
 some [.b (decide (x6<je))]) (
 some [.b false]))) λvs3=>
 gC vs3 λJc uj=>
 gB Jc λx7=>
 gN uj<|
 some (.b x7))))
def JG:GT:=bL 107 (jG uv) MH
theorem JH:SG JG:=C6 Lc [] [] 83 [] [] [] [(1,[0,1,2,3,4,5,6,7,8,9,10,11,12,13,14,15,16,17,18,19,20,21,22,23,24,25]),(7,[0,1,2,3,4,5,6,7,8,9,10,12,13,11,14,15,16,17])] [(7,⟨[2,3],[],[],[(0,[(4,.sc (.k .b))])],[]⟩),(5,⟨[2,3],[],[],[(0,[(45,.sc (.k .b))])],[]⟩),(3,⟨[2,3],[],[],[(0,[(31,.sc (.k .b))])],[]⟩),(1,⟨[2,3],[],[],[(0,[(5,.sc (.k .b))])],[]⟩)] [] [] [] Tryz.func107 (by kernel_rfl) (b9 (λ_ _=>by kernel_rfl))
def s9 (sA view lA:MV):Option MV:=gA sA λcs=>
 C5 cs λF T=>
 gI .i64 view λlh=>
 gL lA λMG=>
 bd (
 bd (kT (.agg [.i .i64 F,.i .i64 T])) λrA=>
 gB rA λx=>
 bG (!x) (
 some [.b true]) (
 cr MG λlen=>
 bd (wY (.agg [.i .i64 F,.i .i64 T])) λbt=>
 gI .i64 bt λx1=>
 some [.b (!decide ((len:Int)=x1))])) λvs=>
 gC vs λm2 pE=>
 gB m2 λx2=>
 gN pE<|
 bG x2 (
 some (.b false)) (
 cr MG λgZ=>
 bd (Loop (λCB=>
 C5 CB λlast x3=>
 bG (decide (x3<(gZ:Int))) (
 idx MG x3 λy=>
 gA y λgQ=>
 ig gQ λBy je Has View Value Proof=>
 bd (
 bd (uv (.agg [.i .i64 F,.i .i64 T]) (.agg (fU By je Has View Value Proof))) λca=>
 gB ca λx4=>
 bG (!x4) (
 some [.b true]) (
 bG (!decide (je=lh)) (
 some [.b true]) (
 some [.b (decide (By<=last))]))) λkX=>
 gC kX λJc lg=>
 gB Jc λx5=>
 gN lg<|
 bG x5 (
 some (.inr (1,[.b false]))) (
 some (.inl [.i .i64 By,.i .i64 (cM .i64 (x3+1))]))) (
 some (.inr (2,[])))) [.i .i64 (-1),.i .i64 0]) λp=>
 bG (sh p.1 2) (
 gN p.2<|
 some (.b true)) (
 cU (sh p.1 1)<|
 gC p.2 λCA rU=>
 gB CA λx6=>
 gN rU<|
 some (.b x6)))
def DU:GT:=bL 153 (Cw s9) JG
theorem Fl:SG DU:=sq JH [] 45 [(7,⟨[1,3,7,9,20,21,22],[],[],[(0,[(41,.sc (.k .b))])],[]⟩),(1,⟨[1,2,3],[],[],[(0,[(19,.sc (.k .b))])],[]⟩)] [] [(5,⟨[1,3,20,21],[],[(7,.sc (.k (.i .i64))),(22,.sc (.k (.i .i64)))],[(1,[(6,.sc (.k .b))]),(2,[])],[]⟩)] Tryz.func153 (by kernel_rfl) (mZ (λ_ _ _=>by kernel_rfl))
def pO (sA view lA value:MV):Option MV:=gA sA λcs=>
 C5 cs λF T=>
 gI .i64 view λlh=>
 gL lA λMG=>
 gS value λoK=>
 bd (s9 (.agg [.i .i64 F,.i .i64 T]) (.i .i64 lh) (.list MG)) λrA=>
 gB rA λx=>
 bG (!x) (
 some (.b false)) (
 bd (pN (.agg [.i .i64 F,.i .i64 T]) (.list MG)) λbt=>
 gT bt λvs=>
 gC vs λm2 pE=>
 gS m2 λx1=>
 gC pE λm3 CB=>
 gB m3 λx2=>
 gN CB<|
 bd (
 bG (!x2) (
 some [.b true]) (
 some [.b (decide (x1=oK))])) λkX=>
 gC kX λm4 CC=>
 gB m4 λx3=>
 gN CC<|
 some (.b x3))
def An:GT:=bL 96 (Tn pO) DU
theorem CF:SG An:=sq Fl [] 29 [(4,⟨[3,9,10],[],[],[(0,[(8,.sc (.k .b))])],[]⟩)] [] [] Tryz.func96 (by kernel_rfl) (DD (λ_ _ _ _=>by kernel_rfl))
def nq (a view value kQ:MV):Option MV:=gA a λcs=>
 iu cs λSF ST Me View Has At Value Proof iV=>
 gI .i64 view λlh=>
 gS value λoK=>
 gL kQ λafY=>
 bd (
 bG (!decide (lh=View)) (
 some [.b true]) (
 bG Has (
 bG (decide (At=lh)) (
 some [.b true]) (
 some [.b (decide ((6000:Int)<(oK.length:Int)))])) (
 some [.b (decide ((6000:Int)<(oK.length:Int)))]))) λvs=>
 gC vs λm9 su=>
 gB m9 λx=>
 gN su<|
 bG x (
 some (.dH [.agg (cV SF ST Me View Has At Value Proof iV),.agg [.i .i64 0,.i .i64 0,.s ([]:List UInt8)],.b false])) (
 bd (
 bG (decide (lh=0)) (
 cr afY λlen=>
 some [.b (decide ((len:Int)=0))]) (
 some [.b false])) λkX=>
 gC kX λK5 ui=>
 gB K5 λx1=>
 gN ui<|
 bd (
 bG x1 (
 some (0,[.i .i64 0,.i .i64 0,.i .i64 0,.i .i64 0,.b false,.i .i64 0,.s ([]:List UInt8),.list ([]:List MV),.list ([]:List MV),.i .i64 0,.i .i64 0,.s ([]:List UInt8)])) (
 bd (pO (.agg [.i .i64 SF,.i .i64 ST]) (.i .i64 lh) (.list afY) (.s oK)) λrA=>
 gB rA λx2=>
 bG (!x2) (
 some (1,[.i .i64 SF,.i .i64 ST,.i .i64 Me,.i .i64 View,.b Has,.i .i64 At,.s Value,.list Proof,.list iV,.i .i64 0,.i .i64 0,.s ([]:List UInt8),.b false])) (
 some (0,[.i .i64 0,.i .i64 0,.i .i64 0,.i .i64 0,.b false,.i .i64 0,.s ([]:List UInt8),.list ([]:List MV),.list ([]:List MV),.i .i64 0,.i .i64 0,.s ([]:List UInt8)])))) λp=>
 bG (sh p.1 1) (
 gC p.2 λJc uj=>
 gI .i64 Jc λx3=>
 gC uj λCA lg=>
 gI .i64 CA λx4=>
 gC lg λJd rU=>
 gI .i64 Jd λx5=>
 gC rU λE9 uk=>
 gI .i64 E9 λx6=>
 gC uk λK6 pG=>
 gB K6 λx7=>
 gC pG λOq wX=>
 gI .i64 Oq λx8=>
 gC wX λBA mG=>
 gS BA λx9=>
 gC mG λGV kv=>
 gL GV λqK=>
 gC kv λWZ nX=>
 gL WZ λrR=>
 gC nX λTu rV=>
 gI .i64 Tu λsd=>
 Ot rV λsn uM yb=>
 some (.dH [.agg (cV x3 x4 x5 x6 x7 x8 x9 qK rR),.agg [.i .i64 sd,.i .i64 sn,.s uM],.b yb])) (
 cU (sh p.1 0)<|
 gC p.2 λm24 JI=>
 gI .i64 m24 λBh=>
 gC JI λm25 aaZ=>
 gI .i64 m25 λxr=>
 gC aaZ λm26 aa5=>
 gI .i64 m26 λMv=>
 gC aa5 λm27 QN=>
 gI .i64 m27 λx19=>
 gC QN λm28 Jj=>
 gB m28 λX3=>
 gC Jj λm29 QO=>
 gI .i64 m29 λX4=>
 gC QO λm30 Jz=>
 gS m30 λVi=>
 gC Jz λm31 Q0=>
 gL m31 λx23=>
 gC Q0 λm32 aa4=>
 gL m32 λx24=>
 lX aa4 λx25 x26 x27=>
 some (.dH [.agg (cV SF ST Me View true lh oK Proof iV),.agg [.i .i64 Me,.i .i64 lh,.s oK],.b true])))
def wZ:GT:=bL 43 (Tn nq) An
theorem Ao:SG wZ:=C6 CF [] [] 62 [] [58] [(7,[4])] [(7,[0,1,2,3,4,5,6,7,8])] [(3,⟨[1,2,3,4,8,9],[],[],[(0,[(33,.sc (.k .b))])],[]⟩),(1,⟨[1,2,3,4,8,9],[],[],[(0,[(11,.sc (.k .b))])],[]⟩)] [(4,⟨[1,2,3,4],[],[],[(0,[(8,.box [.k (.i .i64),.k (.i .i64),.k (.i .i64),.k (.i .i64),.k .b,.k (.i .i64),.k .s,.k .l,.k .l]),(9,.box [.k (.i .i64),.k (.i .i64),.k .s])]),(1,[(8,.box [.k (.i .i64),.k (.i .i64),.k (.i .i64),.k (.i .i64),.k .b,.k (.i .i64),.k .s,.k .l,.k .l]),(9,.box [.k (.i .i64),.k (.i .i64),.k .s]),(10,.sc (.k .b))])],[]⟩)] [] [] Tryz.func43 (by kernel_rfl) (DD (λ_ _ _ _=>by kernel_rfl))
def pP (x:MV):Option MV:=gI .i64 x λx1=>some (.b (!decide (x1=x1)))
def DV:GT:=bL 162 (qE pP) wZ
theorem Fm:SG DV:=sq Ao [] 6 [] [] [] Tryz.func162 (by kernel_rfl) (eI (λ_=>by kernel_rfl))
def mJ (x y:MV):Option MV:=gI .i64 x λx1=>
 gI .i64 y λy1=>
 bd (pP (.i .i64 x1)) λrA=>
 gB rA λx2=>
 bd (pP (.i .i64 y1)) λbt=>
 gB bt λx3=>
 bG x2 (
 bG x3 (
 some (.i .i64 0)) (
 some (.i .i64 (-1)))) (
 bG x3 (
 some (.i .i64 1)) (
 bG (decide (x1<y1)) (
 some (.i .i64 (-1))) (
 bG (decide (y1<x1)) (
 some (.i .i64 1)) (
 some (.i .i64 0)))))
def Ap:GT:=bL 106 (jG mJ) DV
theorem CG:SG Ap:=sq Fm [] 20 [] [] [] Tryz.func106 (by kernel_rfl) (b9 (λ_ _=>by kernel_rfl))
def vD (x qj:MV):Option MV:=gA x λcs=>
 lX cs λBy View Value=>
 gI .i64 qj λTw=>
 bd (mJ (.i .i64 By) (.i .i64 Tw)) λrA=>
 gI .i64 rA λx1=>
 some (.i .i64 x1)
def Aq:GT:=bL 155 (jG vD) Ap
theorem G6:SG Aq:=sq CG [] 9 [] [] [] Tryz.func155 (by kernel_rfl) (b9 (λ_ _=>by kernel_rfl))
def cY:GT:=Aq
theorem j8 (x0 x1:MV):cY 155 [x0,x1]=vD x0 x1:=by kernel_rfl
def dq (x target cmp:MV):Option MV:=gL x λx1=>
 gI .i64 target λDW=>
 gR cmp λaa6=>
 cr x1 λlen=>
 bd (Loop (λyV=>
 C5 yV λi j=>
 bG (decide (i<j)) (
 cU (decide ((0:Int)<=1))<|
 idx x1 (cM .i64 (aaT (cM .u64 (cM .i64 (i+j))) (2^min (AI 1) (BY .u64)))) λy=>
 gA y λcs=>
 lX cs λBy View Value=>
 Ui aa6 λfn cap=>
 cU (!gv fn)<|
 bd (cY fn ([.agg [.i .i64 By,.i .i64 View,.s Value],.i .i64 DW]++cap)) λrA=>
 gI .i64 rA λx2=>
 bd (
 bG (decide (x2<0)) (
 some (0,[.i .i64 (cM .i64 ((cM .i64 (aaT (cM .u64 (cM .i64 (i+j))) (2^min (AI 1) (BY .u64))))+1)),.i .i64 j])) (
 some (0,[.i .i64 i,.i .i64 (cM .i64 (aaT (cM .u64 (cM .i64 (i+j))) (2^min (AI 1) (BY .u64))))]))) λp1=>
 cU (sh p1.1 0)<|
 oII .i64 .i64 p1.2 λi1 j1=>
 some (.inl [.i .i64 i1,.i .i64 j1])) (
 some (.inr (2,[.i .i64 i])))) [.i .i64 0,.i .i64 (len:Int)]) λp=>
 cU (sh p.1 2)<|
 gC p.2 λm7 yc=>
 gI .i64 m7 λi2=>
 gN yc<|
 bd (
 bG (decide (i2<(len:Int))) (
 idx x1 i2 λy1=>
 gA y1 λgQ=>
 lX gQ λOx fJ bT=>
 Ui aa6 λBm rZ=>
 cU (!gv Bm)<|
 bd (cY Bm ([.agg [.i .i64 Ox,.i .i64 fJ,.s bT],.i .i64 DW]++rZ)) λbt=>
 gI .i64 bt λx3=>
 some [.i .i64 i2,.b (decide (x3=0))]) (
 some [.i .i64 i2,.b false])) λvs=>
 gC vs λJc lg=>
 gI .i64 Jc λx4=>
 gC lg λCA rU=>
 gB CA λx5=>
 gN rU<|
 some (.dH [.i .i64 x4,.b x5])
def iK:GT:=bL 154 (Cw dq) Aq
theorem ma:SG iK:=sq G6 [] 49 [(8,⟨[0,1,2,8,9],[],[],[(0,[(6,.sc (.k (.i .i64))),(7,.sc (.k .b))])],[]⟩)] [(6,⟨[0,1,2,8,11],[],[],[(0,[(9,.sc (.k (.i .i64))),(10,.sc (.k (.i .i64)))])],[]⟩)] [(3,⟨[0,1,2,8],[],[(9,.sc (.k (.i .i64))),(10,.sc (.k (.i .i64)))],[(2,[(9,.sc (.k (.i .i64)))])],[]⟩)] Tryz.func154 (by kernel_rfl) (mZ (λ_ _ _=>by kernel_rfl))
def qN (t a:MV):Option MV:=gA t λcs=>
 gC cs λm yV=>
 gL m λL=>
 gN yV<|
 gA a λgQ=>
 lX gQ λBy View Value=>
 bd (nm (.agg [.i .i64 By,.i .i64 View,.s Value])) λrA=>
 gB rA λx=>
 bG (!x) (
 some (.dH [.agg [.list L],.b false])) (
 bd (dq (.list L) (.i .i64 By) (.func 155 [])) λbt=>
 gT bt λvs=>
 gC vs λm4 CC=>
 gI .i64 m4 λx1=>
 gC CC λm5 Fa=>
 gB m5 λx2=>
 gN Fa<|
 bd (
 bG x2 (
 idx L x1 λy=>
 gA y λqg=>
 lX qg λOx fJ bT=>
 some [.b (decide (View<=fJ))]) (
 some [.b false])) λkX=>
 gC kX λm9 su=>
 gB m9 λx3=>
 gN su<|
 bG x3 (
 some (.dH [.agg [.list L],.b false])) (
 bd (jq 3 32 [.list L]) λca=>
 gF ca λxs=>
 bd (
 bG x2 (
 idx xs x1 λy1=>
 gA y1 λxq=>
 lX xq λBy2 Gk j6=>
 some (0,[.list (xs.set (AI x1) (.agg [.i .i64 By,.i .i64 View,.s Value]))])) (
 bd (po 32 [.fresh xs,.i .i64 x1,.fresh ([.agg [.i .i64 By,.i .i64 View,.s Value]]:List MV)]) λcG=>
 gF cG λK8=>
 some (0,[.list K8]))) λp=>
 cU (sh p.1 0)<|
 gC p.2 λJd rU=>
 gL Jd λlA=>
 gN rU<|
 some (.dH [.agg [.list lA],.b true])))
def MI:GT:=bL 97 (jG qN) iK
theorem Ld:SG MI:=C6 ma [] [] 49 [] [] [] [(4,[0,1,2,3,4,5,6,7,8,9,10,11])] [(4,⟨[2,3,4,6,7],[],[],[(0,[(32,.sc (.k .b))])],[45,46]⟩)] [(8,⟨[3,4,6],[],[],[(0,[(8,.sc (.own 36 58 false))])],[45,46]⟩)] [] [] Tryz.func97 (by kernel_rfl) (b9 (λ_ _=>by kernel_rfl))
def oM (a a1:MV):Option MV:=gA a λcs=>
 gC cs λm yV=>
 gL m λL=>
 gN yV<|
 gI .i64 a1 λlZ=>
 cr L λlen=>
 bd (Loop (λwb=>
 DF wb λes x=>
 bG (decide (x<(len:Int))) (
 idx L x λy=>
 gA y λgQ=>
 lX gQ λBy View Value=>
 cU (decide ((0:Int)<=(cy es ([.i .i64 View,.s Value]:List MV):Int)/\AI (cy es ([.i .i64 View,.s Value]:List MV):Int)<(nE es ([.i .i64 View,.s Value]:List MV) (.i .i64 0)).length))<|
 some (.inl [.list (tJ (nE es ([.i .i64 View,.s Value]:List MV) (.i .i64 0)) (AI (cy es ([.i .i64 View,.s Value]:List MV):Int)) (.i .i64 (cM .i64 ((nN es ([.i .i64 View,.s Value]:List MV))+1)))),.i .i64 (cM .i64 (x+1))])) (
 some (.inr (2,[.list es])))) [.list ([]:List MV),.i .i64 0]) λp=>
 cU (sh p.1 2)<|
 gC p.2 λm6 Ad=>
 gL m6 λes1=>
 gN Ad<|
 cr L λgZ=>
 bd (Loop (λyc=>
 gC yc λm7 su=>
 gI .i64 m7 λx1=>
 gC su λm8 ui=>
 gS m8 λx2=>
 gC ui λm9 uj=>
 gB m9 λx3=>
 gC uj λK5 lg=>
 gI .i64 K5 λx4=>
 gN lg<|
 bG (decide (x4<(gZ:Int))) (
 idx L x4 λy1=>
 gA y1 λqg=>
 lX qg λOx fJ bT=>
 bd (
 bG (decide ((1:Int)<=lZ)) (
 bG (decide (lZ<=(nN es1 ([.i .i64 fJ,.s bT]:List MV)))) (
 some [.b (decide (x1<fJ))]) (
 some [.b false])) (
 some [.b false])) λvs=>
 gC vs λE9 wX=>
 gB E9 λx5=>
 gN wX<|
 bd (
 bG x5 (
 some (0,[.i .i64 fJ,.s bT,.b true])) (
 some (0,[.i .i64 x1,.s x2,.b x3]))) λp2=>
 cU (sh p2.1 0)<|
 aeb .i64 p2.2 λx6 x7 x8=>
 some (.inl [.i .i64 x6,.s x7,.b x8,.i .i64 (cM .i64 (x4+1))])) (
 some (.inr (4,[.i .i64 x1,.s x2,.b x3])))) [.i .i64 (-1),.s ([]:List UInt8),.b false,.i .i64 0]) λp1=>
 cU (sh p1.1 4)<|
 aeb .i64 p1.2 λx9 qK rR=>
 bG (!rR) (
 some (.dH [.i .i64 0,.s ([]:List UInt8),.b false])) (
 some (.dH [.i .i64 x9,.s qK,.b true]))
def JJ:GT:=bL 158 (jG oM) MI
theorem JK:SG JJ:=C6 Ld [] [] 71 [] [] [] [(5,[0,1,2,3,4,5,6,7,8,9,10]),(17,[0,1,2,3,4,5,6])] [(12,⟨[1,7,10,11,14,36,37,38],[],[],[(0,[(62,.sc (.k .b))])],[]⟩)] [(13,⟨[1,7,14,36,37,38],[],[],[(0,[(10,.box [.k (.i .i64),.k .s]),(11,.sc (.k .b))])],[]⟩)] [(9,⟨[1,7,36,37],[],[(10,.box [.k (.i .i64),.k .s]),(11,.sc (.k .b)),(38,.sc (.k (.i .i64)))],[(4,[(10,.box [.k (.i .i64),.k .s]),(11,.sc (.k .b))])],[]⟩),(3,⟨[1,2,17,18],[],[(7,.mp ⟨true,[.i .i64,.s],false⟩),(19,.sc (.k (.i .i64)))],[(2,[(7,.mp ⟨true,[.i .i64,.s],false⟩)])],[]⟩)] [] Tryz.func158 (by kernel_rfl) (b9 (λ_ _=>by kernel_rfl))
def ym (sA t:MV):Option MV:=gA sA λcs=>
 C5 cs λF T=>
 gA t λgQ=>
 gC gQ λm2 pE=>
 gL m2 λL=>
 gN pE<|
 bd (oJ (.agg [.i .i64 F,.i .i64 T])) λrA=>
 gI .i64 rA λx=>
 bd (oM (.agg [.list L]) (.i .i64 x)) λbt=>
 gT bt λvs=>
 Ot vs λx1 x2 x3=>
 bG (!x3) (
 some (.dH [.list ([]:List MV),.b false])) (
 bd (pI (.agg [.list L]) (.i .i64 x1) (.s x2)) λca=>
 gL ca λx4=>
 bd (oJ (.agg [.i .i64 F,.i .i64 T])) λcG=>
 gI .i64 cG λx5=>
 cr x4 λlen=>
 cU (decide ((0:Int)<=0/\(0:Int)<=x5/\x5<=(len:Int)))<|
 some (.dH [.list (OF (AI 0) (aaf (AI x5) x4)),.b true]))
def JL:GT:=bL 98 (jG ym) JJ
theorem JM:SG JL:=C6 JK [] [] 26 [] [] [] [(1,[0,1,2,3,4,5,6,7,8,9,10]),(4,[0,1,2,4,3,5,6,7,8])] [] [] [] [] Tryz.func98 (by kernel_rfl) (b9 (λ_ _=>by kernel_rfl))
def rc (a a1:MV):Option MV:=gA a λcs=>
 iu cs λSF ST Me View Has At Value Proof iV=>
 gA a1 λgQ=>
 lX gQ λBy fJ bT=>
 bd (
 bd (sr (.agg [.i .i64 SF,.i .i64 ST])) λrA=>
 gI .i64 rA λx=>
 bG (decide (x<=By)) (
 some [.b true]) (
 some [.b (!decide (fJ=View))])) λvs=>
 gC vs λCA lg=>
 gB CA λx1=>
 gN lg<|
 bG x1 (
 some (.dH [.agg (cV SF ST Me View Has At Value Proof iV),.list ([]:List MV),.b false])) (
 bd (qN (.agg [.list iV]) (.agg [.i .i64 By,.i .i64 fJ,.s bT])) λbt=>
 gT bt λkX=>
 gC kX λJd rU=>
 gA Jd λqg=>
 gC qg λE9 uk=>
 gL E9 λL=>
 gN uk<|
 gC rU λK6 pG=>
 gB K6 λx2=>
 gN pG<|
 bd (ym (.agg [.i .i64 SF,.i .i64 ST]) (.agg [.list L])) λca=>
 gT ca λtY=>
 gC tY λOq wX=>
 gL Oq λx3=>
 gC wX λBA mG=>
 gB BA λx4=>
 gN mG<|
 bd (uq (.list Proof)) λcG=>
 gT cG λvs3=>
 Ot vs3 λx5 x6 x7=>
 bd (
 bd (nm (.agg [.i .i64 By,.i .i64 fJ,.s bT])) λiw=>
 gB iw λx8=>
 bG (!x8) (
 some [.b true]) (
 bG (!x4) (
 some [.b true]) (
 some [.b (decide (View<=x5))]))) λvs4=>
 gC vs4 λm21 Ae=>
 gB m21 λx9=>
 gN Ae<|
 bG x9 (
 some (.dH [.agg (cV SF ST Me View Has At Value Proof L),.list ([]:List MV),.b false])) (
 some (.dH [.agg (cV SF ST Me View Has At Value x3 L),.list x3,.b true])))
def B3:GT:=bL 44 (jG rc) JL
theorem DX:SG B3:=C6 JM [] [] 67 [] [] [] [(1,[0,1,2,3,4,5,6,7,8,9,10,11,12])] [(6,⟨[2,3,4,7,8,9],[],[],[(0,[(61,.sc (.k .b))])],[]⟩),(1,⟨[2,3,4],[],[],[(0,[(24,.sc (.k .b))])],[]⟩)] [] [] [] Tryz.func44 (by kernel_rfl) (b9 (λ_ _=>by kernel_rfl))
def Bn (sA:MV):Option MV:=gA sA λcs=>
 C5 cs λF T=>
 bd (jK (.agg [.i .i64 F,.i .i64 T]) (.raw (.complex .f64 4613937818241073152 4607182418800017408))) λrA=>
 gI .i64 rA λx=>
 some (.i .i64 x)
def tx:GT:=bL 28 (qE Bn) B3
theorem Le:SG tx:=sq DX [] 5 [] [] [] Tryz.func28 (by kernel_rfl) (eI (λ_=>by kernel_rfl))
def pQ:Ctx:=Ov tx [(1,1002001)] 54 [] [] [] [(1,[0,1,2,3,4,5,6,7,8,9,10,11,12,13,14,15,16,17,18,19]),(3,[0,1,2,3,4,5,6,7,8,9,10])] [(1,⟨[1,3,4,6,1002001],[],[],[(0,[(32,.sc (.k .b))])],[]⟩)] [] [] []
def gj (lA:MV)(t:List MV)(a:MV)(cg:MV):Option MV:=gA lA λcs=>
 gY cs λSF ST gd gh qq bQ Value=>
 gA a λgQ=>
 lX gQ λBy View bT=>
 gI .i64 cg λQ1=>
 gY t λyW yX ef eg kU sK j6=>
 bd (
 bG bQ (
 some [.b true]) (
 bG (decide (By<0)) (
 some [.b true]) (
 bd (sr (.agg [.i .i64 SF,.i .i64 ST])) λrA=>
 gI .i64 rA λx=>
 bG (decide (x<=By)) (
 some [.b true]) (
 bd (nm (.agg [.i .i64 By,.i .i64 View,.s bT])) λbt=>
 gB bt λx1=>
 some [.b (!x1)])))) λvs=>
 gC vs λBA mG=>
 gB BA λx2=>
 gN mG<|
 bG x2 (
 some (.dX (.dH [.b false,.s ([]:List UInt8)]) (cP yW yX ef eg kU sK j6))) (
 bd (qN (.agg [.list ef]) (.agg [.i .i64 By,.i .i64 View,.s bT])) λca=>
 gT ca λkX=>
 gC kX λGV kv=>
 gA GV λqg=>
 gC qg λWZ nX=>
 gL WZ λL=>
 gN nX<|
 gC kv λTu rV=>
 gB Tu λx3=>
 gN rV<|
 bd (oM (.agg [.list L]) (.i .i64 Q1)) λcG=>
 gT cG λtY=>
 Ot tY λx4 x5 x6=>
 some (.dX (.dH [.b x6,.s x5]) (cP yW yX L eg kU sK j6)))
theorem wi (lA:MV)(t:List MV)(a:MV)(cg:MV):zu pQ [] 1 My Tryz.f101 [lA,.cell (.func 2 t),a,cg]=gj lA t a cg:=by kernel_rfl
def pR:Ctx:=Ov tx [(1,1003001)] 54 [] [] [] [(1,[0,1,2,3,4,5,6,7,8,9,10,11,12,13,14,15,16,17,18,19]),(3,[0,1,2,3,4,5,6,7,8,9,10])] [(1,⟨[1,3,4,6,1003001],[],[],[(0,[(32,.sc (.k .b))])],[]⟩)] [] [] []
def gk (lA:MV)(t:List MV)(a:MV)(cg:MV):Option MV:=gA lA λcs=>
 gY cs λSF ST gd gh qq bQ Value=>
 gA a λgQ=>
 lX gQ λBy View bT=>
 gI .i64 cg λQ1=>
 gY t λyW yX ef eg kU sK j6=>
 bd (
 bG bQ (
 some [.b true]) (
 bG (decide (By<0)) (
 some [.b true]) (
 bd (sr (.agg [.i .i64 SF,.i .i64 ST])) λrA=>
 gI .i64 rA λx=>
 bG (decide (x<=By)) (
 some [.b true]) (
 bd (nm (.agg [.i .i64 By,.i .i64 View,.s bT])) λbt=>
 gB bt λx1=>
 some [.b (!x1)])))) λvs=>
 gC vs λBA mG=>
 gB BA λx2=>
 gN mG<|
 bG x2 (
 some (.dX (.dH [.b false,.s ([]:List UInt8)]) (cP yW yX ef eg kU sK j6))) (
 bd (qN (.agg [.list eg]) (.agg [.i .i64 By,.i .i64 View,.s bT])) λca=>
 gT ca λkX=>
 gC kX λGV kv=>
 gA GV λqg=>
 gC qg λWZ nX=>
 gL WZ λL=>
 gN nX<|
 gC kv λTu rV=>
 gB Tu λx3=>
 gN rV<|
 bd (oM (.agg [.list L]) (.i .i64 Q1)) λcG=>
 gT cG λtY=>
 Ot tY λx4 x5 x6=>
 some (.dX (.dH [.b x6,.s x5]) (cP yW yX ef L kU sK j6)))
theorem wj (lA:MV)(t:List MV)(a:MV)(cg:MV):zu pR [] 1 My Tryz.f101 [lA,.cell (.func 3 t),a,cg]=gk lA t a cg:=by kernel_rfl
def pS:Ctx:=Ov tx [(1,1004001)] 54 [] [] [] [(1,[0,1,2,3,4,5,6,7,8,9,10,11,12,13,14,15,16,17,18,19]),(3,[0,1,2,3,4,5,6,7,8,9,10])] [(1,⟨[1,3,4,6,1004001],[],[],[(0,[(32,.sc (.k .b))])],[]⟩)] [] [] []
def gl (lA:MV)(t:List MV)(a:MV)(cg:MV):Option MV:=gA lA λcs=>
 gY cs λSF ST gd gh qq bQ Value=>
 gA a λgQ=>
 lX gQ λBy View bT=>
 gI .i64 cg λQ1=>
 gY t λyW yX ef eg kU sK j6=>
 bd (
 bG bQ (
 some [.b true]) (
 bG (decide (By<0)) (
 some [.b true]) (
 bd (sr (.agg [.i .i64 SF,.i .i64 ST])) λrA=>
 gI .i64 rA λx=>
 bG (decide (x<=By)) (
 some [.b true]) (
 bd (nm (.agg [.i .i64 By,.i .i64 View,.s bT])) λbt=>
 gB bt λx1=>
 some [.b (!x1)])))) λvs=>
 gC vs λBA mG=>
 gB BA λx2=>
 gN mG<|
 bG x2 (
 some (.dX (.dH [.b false,.s ([]:List UInt8)]) (cP yW yX ef eg kU sK j6))) (
 bd (qN (.agg [.list kU]) (.agg [.i .i64 By,.i .i64 View,.s bT])) λca=>
 gT ca λkX=>
 gC kX λGV kv=>
 gA GV λqg=>
 gC qg λWZ nX=>
 gL WZ λL=>
 gN nX<|
 gC kv λTu rV=>
 gB Tu λx3=>
 gN rV<|
 bd (oM (.agg [.list L]) (.i .i64 Q1)) λcG=>
 gT cG λtY=>
 Ot tY λx4 x5 x6=>
 some (.dX (.dH [.b x6,.s x5]) (cP yW yX ef eg L sK j6)))
theorem wk (lA:MV)(t:List MV)(a:MV)(cg:MV):zu pS [] 1 My Tryz.f101 [lA,.cell (.func 4 t),a,cg]=gl lA t a cg:=by kernel_rfl
abbrev mK:List MV->Option MV:=λms=>match ms with|[a0,.cell (.func off a1),a2,a3]=>(match sh off 2 with|true=>gj a0 a1 a2 a3|false=>(match sh off 3 with|true=>gk a0 a1 a2 a3|false=>(match sh off 4 with|true=>gl a0 a1 a2 a3|false=>none)))|_=>none
theorem xa {ms:List MV}{r:MV}(h:mK ms=some r): ∃c':Ctx,zX cx c'/\c'.g=tx/\Mg c' 101 Tryz.f101 []=true/\zu c' [] 1 My Tryz.f101 ms=some r:=by
 unfold mK at h;split at h
 ·rename_i a0 off a1 a2 a3;cases cJ:sh off 2 with
  |true=>have:=AT cJ;subst this;exact ⟨pQ,⟨rfl,rfl,rfl,rfl,rfl,rfl,rfl,rfl,rfl⟩,rfl,by kernel_rfl,(wi _ _ _ _).trans h⟩
  |false=>
  rw [cJ] at h;simp only at h;cases Pz:sh off 3 with
  |true=>have:=AT Pz;subst this;exact ⟨pR,⟨rfl,rfl,rfl,rfl,rfl,rfl,rfl,rfl,rfl⟩,rfl,by kernel_rfl,(wj _ _ _ _).trans h⟩
  |false=>
  rw [Pz] at h;simp only at h;cases ho4:sh off 4 with
  |true=>have:=AT ho4;subst this;exact ⟨pS,⟨rfl,rfl,rfl,rfl,rfl,rfl,rfl,rfl,rfl⟩,rfl,by kernel_rfl,(wk _ _ _ _).trans h⟩
  |false=>
  rw [ho4] at h;simp only at h;cases h
 ·cases h
def r6:GT:=bL 101 mK tx
theorem wm:SG r6:=Le.fnC (pos:=1) (ks:=My) (dh:=[]) oz Ja Jg MA wa Bi Tryz.func101 (by kernel_rfl) (λ_=>rfl) xa
def nt (lA a:MV):Option MV:=gA lA λcs=>
 gY cs λSF ST gd gh qq bQ Value=>
 gA a λgQ=>
 lX gQ λBy View bT=>
 bd (Bn (.agg [.i .i64 SF,.i .i64 ST])) λrA=>
 gI .i64 rA λx=>
 bd (gj (.agg (cP SF ST gd gh qq bQ Value)) (cP SF ST gd gh qq bQ Value) (.agg [.i .i64 By,.i .i64 View,.s bT]) (.i .i64 x)) λbt=>
 gW bt λx1 ls=>
 gY ls λyW yX ef eg kU sK j6=>
 gT x1 λvs=>
 gC vs λBA mG=>
 gB BA λx2=>
 gC mG λGV kv=>
 gS GV λx3=>
 gN kv<|
 bd (
 bG x2 (
 some (0,(cP yW yX ef eg kU true x3))) (
 some (0,(cP yW yX ef eg kU sK j6)))) λp=>
 cU (sh p.1 0)<|
 Ac .i64 .i64 p.2 λMG lA2 lA3 lA4 lA5 lA6 lA7=>
 some (.agg (cP MG lA2 lA3 lA4 lA5 lA6 lA7))
def xb:GT:=bL 45 (jG nt) r6
theorem Ar:SG xb:=C6 wm [] [] 22 [] [] [] [(1,[0,1,2,3,4,5,6,7,8,9,10,11])] [] [(3,⟨[4,6],[],[],[(0,[(2,.box [.k (.i .i64),.k (.i .i64),.k .l,.k .l,.k .l,.k .b,.k .s])])],[]⟩)] [] [] Tryz.func45 (by kernel_rfl) (b9 (λ_ _=>by kernel_rfl))
def lT (lA qj p:MV):Option MV:=gA lA λcs=>
 gY cs λSF ST gd gh qq bQ Value=>
 gI .i64 qj λTw=>
 gL p λp1=>
 bd (oT (.agg [.i .i64 SF,.i .i64 ST]) (.list p1)) λrA=>
 gB rA λx=>
 bG (!x) (
 some (.agg (cP SF ST gd gh qq bQ Value))) (
 bd (uq (.list p1)) λbt=>
 gT bt λvs=>
 Ot vs λx1 x2 x3=>
 bd (oJ (.agg [.i .i64 SF,.i .i64 ST])) λca=>
 gI .i64 ca λx4=>
 bd (gk (.agg (cP SF ST gd gh qq bQ Value)) (cP SF ST gd gh qq bQ Value) (.agg [.i .i64 Tw,.i .i64 x1,.s x2]) (.i .i64 x4)) λcG=>
 gW cG λx5 ls=>
 gY ls λyW yX ef eg kU sK bT=>
 gT x5 λkX=>
 gC kX λBA mG=>
 gB BA λx6=>
 gC mG λGV kv=>
 gS GV λx7=>
 gN kv<|
 bd (
 bG x6 (
 some (0,(cP yW yX ef eg kU true x7))) (
 some (0,(cP yW yX ef eg kU sK bT)))) λp2=>
 cU (sh p2.1 0)<|
 Ac .i64 .i64 p2.2 λMG lA2 lA3 lA4 lA5 lA6 lA7=>
 some (.agg (cP MG lA2 lA3 lA4 lA5 lA6 lA7)))
def vE:GT:=bL 46 (Cw lT) xb
theorem y9:SG vE:=C6 Ar [] [] 42 [] [] [] [(4,[0,1,2,3,4,5,6,7,8,9,10,11,12,13,14])] [] [(6,⟨[6,11],[],[],[(0,[(3,.box [.k (.i .i64),.k (.i .i64),.k .l,.k .l,.k .l,.k .b,.k .s])])],[]⟩)] [] [] Tryz.func46 (by kernel_rfl) (mZ (λ_ _ _=>by kernel_rfl))
def ol (x qj:MV):Option MV:=gA x λcs=>
 ig cs λBy je Has View Value Proof=>
 gI .i64 qj λTw=>
 bd (mJ (.i .i64 By) (.i .i64 Tw)) λrA=>
 gI .i64 rA λx1=>
 some (.i .i64 x1)
def sv:GT:=bL 105 (jG ol) vE
theorem BD:SG sv:=sq y9 [] 9 [] [] [] Tryz.func105 (by kernel_rfl) (b9 (λ_ _=>by kernel_rfl))
def cZ:GT:=sv
theorem iX (x0 x1:MV):cZ 105 [x0,x1]=ol x0 x1:=by kernel_rfl
def dt (x target cmp:MV):Option MV:=gL x λx1=>
 gI .i64 target λDW=>
 gR cmp λaa6=>
 cr x1 λlen=>
 bd (Loop (λyV=>
 C5 yV λi j=>
 bG (decide (i<j)) (
 cU (decide ((0:Int)<=1))<|
 idx x1 (cM .i64 (aaT (cM .u64 (cM .i64 (i+j))) (2^min (AI 1) (BY .u64)))) λy=>
 gA y λcs=>
 ig cs λBy je Has View Value Proof=>
 Ui aa6 λfn cap=>
 cU (!gv fn)<|
 bd (cZ fn ([.agg (fU By je Has View Value Proof),.i .i64 DW]++cap)) λrA=>
 gI .i64 rA λx2=>
 bd (
 bG (decide (x2<0)) (
 some (0,[.i .i64 (cM .i64 ((cM .i64 (aaT (cM .u64 (cM .i64 (i+j))) (2^min (AI 1) (BY .u64))))+1)),.i .i64 j])) (
 some (0,[.i .i64 i,.i .i64 (cM .i64 (aaT (cM .u64 (cM .i64 (i+j))) (2^min (AI 1) (BY .u64))))]))) λp1=>
 cU (sh p1.1 0)<|
 oII .i64 .i64 p1.2 λi1 j1=>
 some (.inl [.i .i64 i1,.i .i64 j1])) (
 some (.inr (2,[.i .i64 i])))) [.i .i64 0,.i .i64 (len:Int)]) λp=>
 cU (sh p.1 2)<|
 gC p.2 λK5 uj=>
 gI .i64 K5 λi2=>
 gN uj<|
 bd (
 bG (decide (i2<(len:Int))) (
 idx x1 i2 λy1=>
 gA y1 λgQ=>
 ig gQ λOx Xa DP fJ bT oL=>
 Ui aa6 λBm rZ=>
 cU (!gv Bm)<|
 bd (cZ Bm ([.agg (fU Ox Xa DP fJ bT oL),.i .i64 DW]++rZ)) λbt=>
 gI .i64 bt λx3=>
 some [.i .i64 i2,.b (decide (x3=0))]) (
 some [.i .i64 i2,.b false])) λvs=>
 gC vs λBA kv=>
 gI .i64 BA λx4=>
 gC kv λGV nX=>
 gB GV λx5=>
 gN nX<|
 some (.dH [.i .i64 x4,.b x5])
def iL:GT:=bL 104 (Cw dt) sv
theorem mb:SG iL:=sq BD [] 49 [(8,⟨[0,1,2,8,9],[],[],[(0,[(6,.sc (.k (.i .i64))),(7,.sc (.k .b))])],[]⟩)] [(6,⟨[0,1,2,8,11],[],[],[(0,[(9,.sc (.k (.i .i64))),(10,.sc (.k (.i .i64)))])],[]⟩)] [(3,⟨[0,1,2,8],[],[(9,.sc (.k (.i .i64))),(10,.sc (.k (.i .i64)))],[(2,[(9,.sc (.k (.i .i64)))])],[]⟩)] Tryz.func104 (by kernel_rfl) (mZ (λ_ _ _=>by kernel_rfl))
def rf (n:List MV)(sA:MV)(i:MV)(rA:MV):Option MV:=gA sA λcs=>
 C5 cs λF T=>
 gI .i64 i λi1=>
 gA rA λgQ=>
 ig gQ λBy je Has View Value Proof=>
 bg n λAg Ah Ai ek mF Aj dQ dR cQ Ak Al bO bP dS fQ dU eH ir=>
 bd (dt (.list eH) (.i .i64 By) (.func 105 [])) λbt=>
 gT bt λvs=>
 gC vs λm26 aa5=>
 gI .i64 m26 λx=>
 gC aa5 λm27 QN=>
 gB m27 λx1=>
 gN QN<|
 bd (
 bG (!x1) (
 bG (decide (ek=je)) (
 bd (mI (.agg [.i .i64 F,.i .i64 T]) (.i .i64 je)) λca=>
 gI .i64 ca λx2=>
 bG (decide (x2=i1)) (
 bd (uv (.agg [.i .i64 F,.i .i64 T]) (.agg (fU By je Has View Value Proof))) λcG=>
 gB cG λx3=>
 some [.b x3]) (
 some [.b false])) (
 some [.b false])) (
 some [.b false])) λkX=>
 gC kX λm28 Jj=>
 gB m28 λx4=>
 gN Jj<|
 bd (
 bG x4 (
 both (
 bd (jq 6 72 [.list eH]) λiw=>
 gF iw λxs=>
 bd (po 72 [.fresh xs,.i .i64 x,.fresh ([.agg (fU By je Has View Value Proof)]:List MV)]) λlW=>
 gF lW λK8=>
 some (0,(aw Ag Ah Ai ek mF Aj dQ dR cQ Ak Al bO bP dS fQ dU K8 ir))) (
 bd (jq 6 72 [.list eH]) λsj=>
 gF sj λQS=>
 bd (po 72 [.fresh QS,.i .i64 x,.fresh ([.agg (fU By je Has View Value Proof)]:List MV)]) λC4=>
 gF C4 λVh=>
 some (0,(aw Ag Ah Ai ek mF Aj dQ dR cQ Ak Al bO bP dS fQ dU Vh ir)))) (
 some (0,(aw Ag Ah Ai ek mF Aj dQ dR cQ Ak Al bO bP dS fQ dU eH ir)))) λp=>
 cU (sh p.1 0)<|
 fM .i64 .i64 .i64 .i64 .i64 .i64 .i64 .i64 p.2 λx5 x6 x7 x8 x9 qK rR sd sn uM yb Bh xr Mv x19 X3 X4 Vi=>
 some (.dX (.dH []) (aw x5 x6 x7 x8 x9 qK rR sd sn uM yb Bh xr Mv x19 X3 X4 Vi))
def B4:GT:=bL 47 (cl4 rf) iL
theorem DY:SG B4:=fnC mb 0 afR [] [(0,1000000)] 57 [54] [] [] [(1,[0,1,2,3,4,5,6,7,8,9,10,11]),(2,[0,1,2,3,4,5,6,7,8,9,10,11,12,13,14,15,17,16,18,19,20,21,22,23,24]),(3,[0,1,2,3,4,6,7,5,8,9,10,11,12,0,1,2,3,4,6,7,8,5,9,10,11,12,13,5,8])] [(2,⟨[0,2,5,7,8,9,1000000],[],[],[(0,[(44,.sc (.k .b))])],[50,53]⟩)] [(3,⟨[0,7,8],[],[],[(0,[(1000000,.box [.k (.i .i64),.k (.i .i64),.k (.i .i64),.k (.i .i64),.k .b,.k (.i .i64),.k .s,.k .l,.k .l,.k (.i .i64),.k (.i .i64),.k .l,.k .l,.k .l,.k .b,.k .s,.k .l,.k (.i .i64)])])],[50,53]⟩)] [] [] Tryz.func47 (by kernel_rfl) (by kernel_rfl) (aaN λ_ _ _ _=>by kernel_rfl)
def Bo (sA:MV):Option MV:=gA sA λcs=>
 C5 cs λF T=>
 bd (jK (.agg [.i .i64 F,.i .i64 T]) (.raw (.complex .f64 4607182418800017408 0))) λrA=>
 gI .i64 rA λx=>
 some (.i .i64 x)
def MJ:GT:=bL 109 (qE Bo) B4
theorem Lf:SG MJ:=sq DY [] 5 [] [] [] Tryz.func109 (by kernel_rfl) (eI (λ_=>by kernel_rfl))
def ta (lA qj value:MV):Option MV:=gA lA λcs=>
 gY cs λSF ST gd gh qq bQ Value=>
 gI .i64 qj λTw=>
 gS value λoK=>
 bd (Bo (.agg [.i .i64 SF,.i .i64 ST])) λrA=>
 gI .i64 rA λx=>
 bd (gl (.agg (cP SF ST gd gh qq bQ Value)) (cP SF ST gd gh qq bQ Value) (.agg [.i .i64 Tw,.i .i64 0,.s oK]) (.i .i64 x)) λbt=>
 gW bt λx1 ls=>
 gY ls λyW yX ef eg kU sK bT=>
 gT x1 λvs=>
 gC vs λE9 uk=>
 gB E9 λx2=>
 gC uk λK6 pG=>
 gS K6 λx3=>
 gN pG<|
 bd (
 bG x2 (
 some (0,(cP yW yX ef eg kU true x3))) (
 some (0,(cP yW yX ef eg kU sK bT)))) λp=>
 cU (sh p.1 0)<|
 Ac .i64 .i64 p.2 λMG lA2 lA3 lA4 lA5 lA6 lA7=>
 some (.agg (cP MG lA2 lA3 lA4 lA5 lA6 lA7))
def DZ:GT:=bL 48 (Cw ta) MJ
theorem Fo:SG DZ:=C6 Lf [] [] 26 [] [] [] [(1,[0,1,2,3,4,5,6,7,8,9,10,11,12,13])] [] [(3,⟨[6,8],[],[],[(0,[(3,.box [.k (.i .i64),.k (.i .i64),.k .l,.k .l,.k .l,.k .b,.k .s])])],[]⟩)] [] [] Tryz.func48 (by kernel_rfl) (mZ (λ_ _ _=>by kernel_rfl))
def yn (a a1 a2 a3:MV):Option MV:=gA a λcs=>
 C5 cs λF T=>
 gI .i64 a1 λlZ=>
 gA a2 λgQ=>
 bg gQ λAg Ah Ai ek mF Aj dQ dR cQ Ak Al bO bP dS fQ dU eH ir=>
 gA a3 λqg=>
 dZ qg λKind eE View Value fN iW eo dy Proof KK wg wh nZ j7 jt=>
 bd (
 bG (decide (Kind=1)) (
 bd (mI (.agg [.i .i64 F,.i .i64 T]) (.i .i64 View)) λrA=>
 gI .i64 rA λx=>
 bG (!decide (eE=x)) (
 some (2,(dP Ag Ah Ai ek mF Aj dQ dR cQ Ak Al bO bP dS fQ dU eH ir ([]:List MV)))) (
 bd (nq (.agg (cV Ag Ah Ai ek mF Aj dQ dR cQ)) (.i .i64 View) (.s Value) (.list fN)) λbt=>
 gT bt λvs=>
 gC vs λm35 aa7=>
 gA m35 λxq=>
 iu xq λSF ST Me fJ Has At bT oL iV=>
 gC aa7 λm45 aaV=>
 gA m45 λcs4=>
 lX cs4 λBy Gk j6=>
 gC aaV λm49 aa8=>
 gB m49 λx1=>
 gN aa8<|
 bd (
 bG x1 (
 cr ([.agg (aF 2 0 0 ([]:List UInt8) ([]:List MV) By Gk j6 ([]:List MV) 0 0 false 0 ([]:List UInt8) ([]:List MV))]:List MV) λlen=>
 cU (decide (len *192<=2^46))<|
 some (0,[.list ([.agg (aF 2 0 0 ([]:List UInt8) ([]:List MV) By Gk j6 ([]:List MV) 0 0 false 0 ([]:List UInt8) ([]:List MV))]:List MV)])) (
 some (0,[.list ([]:List MV)]))) λp1=>
 cU (sh p1.1 0)<|
 gC p1.2 λm50 aa9=>
 gL m50 λxs=>
 gN aa9<|
 some (0,(dP SF ST Me fJ Has At bT oL iV Ak Al bO bP dS fQ dU eH ir xs)))) (
 bd (
 bG (decide (Kind=2)) (
 bd (rc (.agg (cV Ag Ah Ai ek mF Aj dQ dR cQ)) (.agg [.i .i64 iW,.i .i64 eo,.s dy])) λca=>
 gT ca λkX=>
 gC kX λm51 aba=>
 gA m51 λcs5=>
 iu cs5 λyW yX Me1 amD DP At1 ah0 ah1 aeh=>
 gC aba λm61 amE=>
 gL m61 λx2=>
 gC amE λm62 amF=>
 gB m62 λx3=>
 gN amF<|
 bd (
 bG x3 (
 cr ([.agg (aF 3 lZ 0 ([]:List UInt8) ([]:List MV) 0 0 ([]:List UInt8) x2 0 0 false 0 ([]:List UInt8) ([]:List MV))]:List MV) λgZ=>
 cU (decide (gZ *192<=2^46))<|
 some (0,[.list ([.agg (aF 3 lZ 0 ([]:List UInt8) ([]:List MV) 0 0 ([]:List UInt8) x2 0 0 false 0 ([]:List UInt8) ([]:List MV))]:List MV)])) (
 some (0,[.list ([]:List MV)]))) λp3=>
 cU (sh p3.1 0)<|
 gC p3.2 λm63 abb=>
 gL m63 λK8=>
 gN abb<|
 bd (nt (.agg (cP Ak Al bO bP dS fQ dU)) (.agg [.i .i64 iW,.i .i64 eo,.s dy])) λcG=>
 gA cG λcs6=>
 gY cs6 λSF2 ST2 gd gh qq bQ ah2=>
 some (0,(dP yW yX Me1 amD DP At1 ah0 ah1 aeh SF2 ST2 gd gh qq bQ ah2 eH ir K8))) (
 bd (
 bG (decide (Kind=3)) (
 bd (lT (.agg (cP Ak Al bO bP dS fQ dU)) (.i .i64 eE) (.list Proof)) λiw=>
 gA iw λcs7=>
 gY cs7 λSF3 ST3 ef eg kU sK ah5=>
 some (0,(aw Ag Ah Ai ek mF Aj dQ dR cQ SF3 ST3 ef eg kU sK ah5 eH ir))) (
 bd (
 bG (decide (Kind=4)) (
 bd (rf (aw Ag Ah Ai ek mF Aj dQ dR cQ Ak Al bO bP dS fQ dU eH ir) (.agg [.i .i64 F,.i .i64 T]) (.i .i64 lZ) (.agg (fU KK wg wh nZ j7 jt))) λlW=>
 gW lW λx4 ls=>
 bg ls λJN JO JP uw As JQ pT pU mL JR JS iY iZ pV ux om JT JU=>
 some (0,(aw JN JO JP uw As JQ pT pU mL JR JS iY iZ pV ux om JT JU))) (
 bd (
 bG (decide (Kind=5)) (
 bd (ta (.agg (cP Ak Al bO bP dS fQ dU)) (.i .i64 eE) (.s Value)) λsj=>
 gA sj λcs8=>
 gY cs8 λSF4 ST4 Xb Xc ah6 amG ah7=>
 some (0,(aw Ag Ah Ai ek mF Aj dQ dR cQ SF4 ST4 Xb Xc ah6 amG ah7 eH ir))) (
 some (0,(aw Ag Ah Ai ek mF Aj dQ dR cQ Ak Al bO bP dS fQ dU eH ir)))) λp6=>
 cU (sh p6.1 0)<|
 fM .i64 .i64 .i64 .i64 .i64 .i64 .i64 .i64 p6.2 λx5 x6 x7 x8 x9 qK rR sd sn uM yb Bh xr Mv x19 X3 X4 Vi=>
 some (0,(aw x5 x6 x7 x8 x9 qK rR sd sn uM yb Bh xr Mv x19 X3 X4 Vi)))) λp5=>
 cU (sh p5.1 0)<|
 fM .i64 .i64 .i64 .i64 .i64 .i64 .i64 .i64 p5.2 λx23 x24 x25 x26 x27 x28 x29 x30 x31 x32 x33 x34 x35 x36 x37 x38 x39 x40=>
 some (0,(aw x23 x24 x25 x26 x27 x28 x29 x30 x31 x32 x33 x34 x35 x36 x37 x38 x39 x40)))) λp4=>
 cU (sh p4.1 0)<|
 fM .i64 .i64 .i64 .i64 .i64 .i64 .i64 .i64 p4.2 λx41 x42 x43 x44 x45 x46 x47 x48 x49 x50 x51 x52 x53 x54 x55 x56 x57 x58=>
 some (0,(dP x41 x42 x43 x44 x45 x46 x47 x48 x49 x50 x51 x52 x53 x54 x55 x56 x57 x58 ([]:List MV))))) λp2=>
 cU (sh p2.1 0)<|
 jJ .i64 .i64 .i64 .i64 .i64 .i64 .i64 .i64 p2.2 λx59 x60 x61 x62 x63 x64 x65 x66 x67 x68 x69 x70 x71 x72 x73 x74 x75 x76 QS=>
 some (0,(dP x59 x60 x61 x62 x63 x64 x65 x66 x67 x68 x69 x70 x71 x72 x73 x74 x75 x76 QS)))) λp=>
 bG (sh p.1 2) (
 jJ .i64 .i64 .i64 .i64 .i64 .i64 .i64 .i64 p.2 λx77 x78 x79 x80 x81 x82 x83 x84 x85 x86 x87 x88 x89 x90 x91 x92 x93 x94 Vh=>
 bd (
 bG x91 (
 some [.b (!fQ)]) (
 some [.b false])) λtY=>
 gC tY λaqZ ah8=>
 gB aqZ λx95=>
 gN ah8<|
 bd (
 bG x95 (
 cr Vh λrS=>
 cr ([.agg (aF 5 lZ 0 x92 ([]:List MV) 0 0 ([]:List UInt8) ([]:List MV) 0 0 false 0 ([]:List UInt8) ([]:List MV))]:List MV) λCD=>
 cU (decide ((rS+CD) *192<=2^46))<|
 some (0,[.list (Vh++([.agg (aF 5 lZ 0 x92 ([]:List MV) 0 0 ([]:List UInt8) ([]:List MV) 0 0 false 0 ([]:List UInt8) ([]:List MV))]:List MV))])) (
 some (0,[.list Vh]))) λp9=>
 cU (sh p9.1 0)<|
 gC p9.2 λaq0 ah9=>
 gL aq0 λxs4=>
 gN ah9<|
 some (.dH [.agg (aw x77 x78 x79 x80 x81 x82 x83 x84 x85 x86 x87 x88 x89 x90 x91 x92 x93 x94),.list xs4])) (
 cU (sh p.1 0)<|
 jJ .i64 .i64 .i64 .i64 .i64 .i64 .i64 .i64 p.2 λx96 x97 x98 x99 aq1 aq2 aq3 aq4 aq5 aq6 aq7 aq8 aq9 ara amH aia arb arc xs5=>
 bd (
 bG amH (
 some [.b (!fQ)]) (
 some [.b false])) λvs3=>
 gC vs3 λard aib=>
 gB ard λarf=>
 gN aib<|
 bd (
 bG arf (
 cr xs5 λJh=>
 cr ([.agg (aF 5 lZ 0 aia ([]:List MV) 0 0 ([]:List UInt8) ([]:List MV) 0 0 false 0 ([]:List UInt8) ([]:List MV))]:List MV) λFf=>
 cU (decide ((Jh+Ff) *192<=2^46))<|
 some (0,[.list (xs5++([.agg (aF 5 lZ 0 aia ([]:List MV) 0 0 ([]:List UInt8) ([]:List MV) 0 0 false 0 ([]:List UInt8) ([]:List MV))]:List MV))])) (
 some (0,[.list xs5]))) λp10=>
 cU (sh p10.1 0)<|
 gC p10.2 λarh aic=>
 gL arh λxs6=>
 gN aic<|
 some (.dH [.agg (aw x96 x97 x98 x99 aq1 aq2 aq3 aq4 aq5 aq6 aq7 aq8 aq9 ara amH aia arb arc),.list xs6]))
def JV:GT:=bL 15 (Tn yn) DZ
theorem JW:SG JV:=C6 Fo [] [] 118 [47,66,114] [] [] [(5,[0,1,2,3,4,5,6])] [(22,⟨[1,6,8,10,12],[48,67],[],[(0,[(107,.sc (.k .b))])],[48,67]⟩)] [(23,⟨[1,6,8],[],[],[(0,[(12,.sc (.own 48 62 true))])],[48,67]⟩),(9,⟨[1,6,8,10,13],[],[],[(0,[(12,.sc (.own 48 62 true))])],[48,67]⟩),(14,⟨[1,6,7,8,10,14],[],[],[(0,[(12,.sc (.own 67 62 true))])],[48,67]⟩),(21,⟨[1,7,8,10,12],[],[],[(0,[(6,.box [.k (.i .i64),.k (.i .i64),.k (.i .i64),.k (.i .i64),.k .b,.k (.i .i64),.k .s,.k .l,.k .l,.k (.i .i64),.k (.i .i64),.k .l,.k .l,.k .l,.k .b,.k .s,.k .l,.k (.i .i64)])])],[48,67]⟩),(19,⟨[1,4,7,8,10,12,19],[],[],[(0,[(6,.box [.k (.i .i64),.k (.i .i64),.k (.i .i64),.k (.i .i64),.k .b,.k (.i .i64),.k .s,.k .l,.k .l,.k (.i .i64),.k (.i .i64),.k .l,.k .l,.k .l,.k .b,.k .s,.k .l,.k (.i .i64)])])],[48,67]⟩),(17,⟨[1,4,7,8,10,12,19],[],[],[(0,[(6,.box [.k (.i .i64),.k (.i .i64),.k (.i .i64),.k (.i .i64),.k .b,.k (.i .i64),.k .s,.k .l,.k .l,.k (.i .i64),.k (.i .i64),.k .l,.k .l,.k .l,.k .b,.k .s,.k .l,.k (.i .i64)])])],[48,67]⟩),(11,⟨[1,4,7,8,10,19],[],[],[(0,[(6,.box [.k (.i .i64),.k (.i .i64),.k (.i .i64),.k (.i .i64),.k .b,.k (.i .i64),.k .s,.k .l,.k .l,.k (.i .i64),.k (.i .i64),.k .l,.k .l,.k .l,.k .b,.k .s,.k .l,.k (.i .i64)]),(12,.sc (.own 67 62 true))])],[48,67]⟩),(5,⟨[1,4,7,8,10,19],[],[],[(0,[(6,.box [.k (.i .i64),.k (.i .i64),.k (.i .i64),.k (.i .i64),.k .b,.k (.i .i64),.k .s,.k .l,.k .l,.k (.i .i64),.k (.i .i64),.k .l,.k .l,.k .l,.k .b,.k .s,.k .l,.k (.i .i64)]),(12,.sc (.own 48 62 true))]),(2,[(6,.box [.k (.i .i64),.k (.i .i64),.k (.i .i64),.k (.i .i64),.k .b,.k (.i .i64),.k .s,.k .l,.k .l,.k (.i .i64),.k (.i .i64),.k .l,.k .l,.k .l,.k .b,.k .s,.k .l,.k (.i .i64)]),(12,.sc (.own 48 62 true))])],[48,67]⟩)] [] [] Tryz.func15 (by kernel_rfl) (DD (λ_ _ _ _=>by kernel_rfl))
def rh (a:MV):Option MV:=gA a λcs=>
 iu cs λSF ST Me View Has At Value Proof iV=>
 some (.agg (fU Me View Has At Value Proof))
def B5:GT:=bL 121 (qE rh) JV
theorem D5:SG B5:=sq JW [] 16 [] [] [] Tryz.func121 (by kernel_rfl) (eI (λ_=>by kernel_rfl))
def pW (a view:MV):Option MV:=gA a λcs=>
 iu cs λSF ST Me View Has At Value Proof iV=>
 gI .i64 view λlh=>
 bd (
 bG (decide (lh<=View)) (
 some [.b true]) (
 some [.b (decide ((100000:Int)<lh))])) λvs=>
 gC vs λm9 su=>
 gB m9 λx=>
 gN su<|
 bG x (
 some (.dH [.agg (cV SF ST Me View Has At Value Proof iV),.agg (fU 0 0 false 0 ([]:List UInt8) ([]:List MV)),.b false])) (
 bd (rh (.agg (cV SF ST Me lh Has At Value Proof ([]:List MV)))) λrA=>
 gA rA λgQ=>
 ig gQ λBy je DP fJ bT oL=>
 some (.dH [.agg (cV SF ST Me lh Has At Value Proof ([]:List MV)),.agg (fU By je DP fJ bT oL),.b true]))
def Au:GT:=bL 56 (jG pW) B5
theorem CH:SG Au:=C6 D5 [] [] 24 [] [] [] [(4,[0,1,2,3,4,5])] [(1,⟨[1,2,4,5],[],[],[(0,[(14,.sc (.k .b))])],[]⟩)] [] [] [] Tryz.func56 (by kernel_rfl) (b9 (λ_ _=>by kernel_rfl))
def vF (x_ x_1 n view:MV):Option MV:=gA x_ λcs=>
 C5 cs λF T=>
 gI .i64 x_1 λatx=>
 gA n λgQ=>
 bg gQ λAg Ah Ai ek mF Aj dQ dR cQ Ak Al bO bP dS fQ dU eH ir=>
 gI .i64 view λlh=>
 bd (pW (.agg (cV Ag Ah Ai ek mF Aj dQ dR cQ)) (.i .i64 lh)) λrA=>
 gT rA λvs=>
 gC vs λTu rV=>
 gA Tu λqg=>
 iu qg λSF ST Me View Has At Value Proof iV=>
 gC rV λm30 Jz=>
 gA m30 λxq=>
 ig xq λBy je DP fJ bT oL=>
 gC Jz λm37 QR=>
 gB m37 λx=>
 gN QR<|
 bG (!x) (
 some (.dH [.agg (aw Ag Ah Ai ek mF Aj dQ dR cQ Ak Al bO bP dS fQ dU eH ir),.list ([]:List MV)])) (
 both (
 some (.dH [.agg (aw SF ST Me View Has At Value Proof iV Ak Al bO bP dS fQ dU ([]:List MV) ir),.list ([.agg (aF 4 0 0 ([]:List UInt8) ([]:List MV) 0 0 ([]:List UInt8) ([]:List MV) By je DP fJ bT oL)]:List MV)])) (
 some (.dH [.agg (aw SF ST Me View Has At Value Proof iV Ak Al bO bP dS fQ dU ([]:List MV) ir),.list ([.agg (aF 4 0 0 ([]:List UInt8) ([]:List MV) 0 0 ([]:List UInt8) ([]:List MV) By je DP fJ bT oL)]:List MV)])))
def Gs:GT:=bL 18 (Tn vF) Au
theorem G7:SG Gs:=C6 CH [] [] 31 [30] [28] [(2,[11])] [(5,[0,1,2,3,4,5,0,1,2,4,3,5,6,3,4])] [] [] [] [] Tryz.func18 (by kernel_rfl) (DD (λ_ _ _ _=>by kernel_rfl))
def yo (a a1 a2 a3:MV):Option MV:=gA a λcs=>
 C5 cs λF T=>
 gI .i64 a1 λlZ=>
 gA a2 λgQ=>
 bg gQ λAg Ah Ai ek mF Aj dQ dR cQ Ak Al bO bP dS fQ dU eH ir=>
 gS a3 λamI=>
 bd (wY (.agg [.i .i64 F,.i .i64 T])) λrA=>
 gI .i64 rA λx=>
 bd (
 bd (mI (.agg [.i .i64 F,.i .i64 T]) (.i .i64 ek)) λbt=>
 gI .i64 bt λx1=>
 bG (!decide (x1=lZ)) (
 some [.b true]) (
 some [.b (decide (ek<=ir))])) λvs=>
 gC vs λTu rV=>
 gB Tu λx2=>
 gN rV<|
 bG x2 (
 some (.dH [.agg (aw Ag Ah Ai ek mF Aj dQ dR cQ Ak Al bO bP dS fQ dU eH ir),.list ([]:List MV)])) (
 bd (
 bG (decide ((0:Int)<ek)) (
 cr eH λlen=>
 some [.b (decide ((len:Int)<x))]) (
 some [.b false])) λkX=>
 gC kX λm21 Ae=>
 gB m21 λx3=>
 gN Ae<|
 bG x3 (
 some (.dH [.agg (aw Ag Ah Ai ek mF Aj dQ dR cQ Ak Al bO bP dS fQ dU eH ir),.list ([]:List MV)])) (
 bd (
 bG (decide ((0:Int)<ek)) (
 cr eH λgZ=>
 cU (decide ((0:Int)<=0/\(0:Int)<=x/\x<=(gZ:Int)))<|
 bd (jq 6 72 [.list (OF (AI 0) (aaf (AI x) eH))]) λca=>
 gF ca λxs=>
 bd (pN (.agg [.i .i64 F,.i .i64 T]) (.list xs)) λcG=>
 gT cG λtY=>
 gC tY λm22 aa3=>
 gS m22 λx4=>
 gC aa3 λm23 QY=>
 gB m23 λx5=>
 gN QY<|
 bd (
 bG x5 (
 some (0,(aF 1 lZ ek x4 xs 0 0 ([]:List UInt8) ([]:List MV) 0 0 false 0 ([]:List UInt8) ([]:List MV)))) (
 some (0,(aF 1 lZ ek amI xs 0 0 ([]:List UInt8) ([]:List MV) 0 0 false 0 ([]:List UInt8) ([]:List MV))))) λp1=>
 cU (sh p1.1 0)<|
 nk .i64 .i64 .i64 .i64 .i64 .i64 .i64 .i64 p1.2 λx6 x7 x8 x9 K8 qK rR sd sn uM yb Bh xr Mv x19=>
 some (0,(aF x6 x7 x8 x9 K8 qK rR sd sn uM yb Bh xr Mv x19))) (
 some (0,(aF 1 lZ ek amI ([]:List MV) 0 0 ([]:List UInt8) ([]:List MV) 0 0 false 0 ([]:List UInt8) ([]:List MV))))) λp=>
 cU (sh p.1 0)<|
 nk .i64 .i64 .i64 .i64 .i64 .i64 .i64 .i64 p.2 λX3 X4 Vi x23 QS x24 x25 x26 x27 x28 x29 x30 x31 x32 x33=>
 both (
 some (.dH [.agg (aw Ag Ah Ai ek mF Aj dQ dR cQ Ak Al bO bP dS fQ dU eH Vi),.list ([.agg (aF X3 X4 Vi x23 QS x24 x25 x26 x27 x28 x29 x30 x31 x32 x33)]:List MV)])) (
 some (.dH [.agg (aw Ag Ah Ai ek mF Aj dQ dR cQ Ak Al bO bP dS fQ dU eH Vi),.list ([.agg (aF X3 X4 Vi x23 QS x24 x25 x26 x27 x28 x29 x30 x31 x32 x33)]:List MV)]))))
def JX:GT:=bL 20 (Tn yo) Gs
theorem JY:SG JX:=C6 G7 [] [] 75 [74] [73] [(12,[11])] [(13,[0,1,2,3,4,0,1,3,2,4,5,2,3])] [(5,⟨[4,6,8,10,11],[],[],[(0,[(37,.sc (.k .b))])],[57]⟩),(3,⟨[1,4,6,8,10,11],[],[],[(0,[(22,.sc (.k .b))])],[57]⟩)] [(11,⟨[6,8,12],[],[],[(0,[(11,.box [.k (.i .i64),.k (.i .i64),.k (.i .i64),.k .s,.own 57 60 true,.k (.i .i64),.k (.i .i64),.k .s,.k .l,.k (.i .i64),.k (.i .i64),.k .b,.k (.i .i64),.k .s,.k .l])])],[57]⟩),(8,⟨[4,6,8,10],[],[],[(0,[(11,.box [.k (.i .i64),.k (.i .i64),.k (.i .i64),.k .s,.own 57 60 true,.k (.i .i64),.k (.i .i64),.k .s,.k .l,.k (.i .i64),.k (.i .i64),.k .b,.k (.i .i64),.k .s,.k .l])])],[57]⟩)] [] [] Tryz.func20 (by kernel_rfl) (DD (λ_ _ _ _=>by kernel_rfl))
def nu (c i:MV):Option MV:=gA c λcs=>
 cO cs λSF ST bY Want N aV=>
 gI .i64 i λi1=>
 bd (
 bd (fg (.agg (bj SF ST bY Want N aV)) (.i .i64 i1) (.b false)) λrA=>
 gB rA λx=>
 bG (!x) (
 some [.b true]) (
 idx N i1 λy=>
 gA y λgQ=>
 bg gQ λAg Ah Ai ek mF Aj dQ dR cQ Ak Al bO bP dS fQ dU eH ir=>
 some [.b (!fQ)])) λvs=>
 gC vs λm24 JI=>
 gB m24 λx1=>
 gN JI<|
 bG x1 (
 some (.dH [.s ([]:List UInt8),.b false])) (
 idx N i1 λy1=>
 gA y1 λqg=>
 bg qg λJN JO JP uw As JQ pT pU mL JR JS iY iZ pV ux om JT JU=>
 some (.dH [.s om,.b true]))
def D6:GT:=bL 30 (jG nu) JX
theorem Fp:SG D6:=sq JY [] 27 [(1,⟨[1,2],[],[],[(0,[(19,.sc (.k .b))])],[]⟩)] [] [] Tryz.func30 (by kernel_rfl) (b9 (λ_ _=>by kernel_rfl))
def uy (c EU value:MV):Option MV:=gA c λcs=>
 cO cs λSF ST bY Want N aV=>
 gB EU λahg=>
 gS value λoK=>
 bd (Loop (λFb=>
 gC Fb λm6 Ad=>
 gB m6 λaid=>
 gC Ad λm7 yc=>
 gS m7 λOz=>
 gC yc λm8 su=>
 gI .i64 m8 λi=>
 gN su<|
 cr N λlen=>
 bG (decide (i<(len:Int))) (
 bd (nu (.agg (bj SF ST bY Want N aV)) (.i .i64 i)) λrA=>
 gT rA λvs=>
 gC vs λm9 ui=>
 gS m9 λx=>
 gC ui λK5 uj=>
 gB K5 λx1=>
 gN uj<|
 bd (
 bG x1 (
 bG aid (
 some [.b (!decide (x=Oz))]) (
 some [.b false])) (
 some [.b false])) λkX=>
 gC kX λJc lg=>
 gB Jc λx2=>
 gN lg<|
 bG x2 (
 some (.inr (1,[.b false,.b true,.s Oz]))) (
 bd (
 bG x1 (
 some (0,[.b true,.s x])) (
 some (0,[.b aid,.s Oz]))) λp1=>
 cU (sh p1.1 0)<|
 gC p1.2 λCA rU=>
 gB CA λarj=>
 gC rU λJd uk=>
 gS Jd λaie=>
 gN uk<|
 some (.inl [.b arj,.s aie,.i .i64 (cM .i64 (i+1))]))) (
 some (.inr (2,[.b aid,.s Oz])))) [.b ahg,.s oK,.i .i64 0]) λp=>
 bG (sh p.1 2) (
 gC p.2 λE9 pG=>
 gB E9 λark=>
 gC pG λK6 wX=>
 gS K6 λaif=>
 gN wX<|
 some (.dH [.b true,.b ark,.s aif])) (
 cU (sh p.1 1)<|
 gC p.2 λOq mG=>
 gB Oq λx3=>
 gC mG λBA kv=>
 gB BA λx4=>
 gC kv λGV nX=>
 gS GV λx5=>
 gN nX<|
 some (.dH [.b x3,.b x4,.s x5]))
def yp:GT:=bL 33 (Cw uy) D6
theorem JZ:SG yp:=sq Fp [] 39 [(5,⟨[1,2,3,9,10,11],[],[],[(0,[(33,.sc (.k .b))])],[]⟩)] [(8,⟨[3,9,10],[],[],[(0,[(1,.sc (.k .b)),(2,.sc (.k .s))])],[]⟩)] [(2,⟨[3],[],[(1,.sc (.k .b)),(2,.sc (.k .s)),(9,.sc (.k (.i .i64)))],[(1,[(6,.sc (.k .b)),(7,.sc (.k .b)),(8,.sc (.k .s))]),(2,[(1,.sc (.k .b)),(2,.sc (.k .s))])],[]⟩)] Tryz.func33 (by kernel_rfl) (mZ (λ_ _ _=>by kernel_rfl))
def D7:Ctx:=Ov yp [(1,1000001)] 14 [] [] [] [(0,[0,1,2,3,4,5,6,7,8,9,10])] [] [] [] []
def r7 (i:MV)(c:List MV)(c1:MV):Option MV:=gI .i64 i λi1=>
 gP c1 λcs=>
 cO cs λSF ST bY Want N aV=>
 gC c λm6 Fb=>
 gI .i64 m6 λx=>
 gN Fb<|
 idx N i1 λy=>
 gA y λgQ=>
 bg gQ λAg Ah Ai ek mF Aj dQ dR cQ Ak Al bO bP dS fQ dU eH ir=>
 some (.dX (.dH []) [.i .i64 (imax x (cM .i64 (ek+1)))])
theorem J0 (i:MV)(c:List MV)(c1:MV):zu D7 [[],[.i .i64,.i .i64,.l,.l,.l,.l]] 1 Vf Tryz.f89 [i,.cell (.func 0 c),c1]=r7 i c c1:=by kernel_rfl
abbrev Av:List MV->Option MV:=λms=>match ms with|[a0,.cell (.func off a1),a2]=>(match sh off 0 with|true=>r7 a0 a1 a2|false=>none)|_=>none
theorem J3 {ms:List MV}{r:MV}(h:Av ms=some r): ∃c':Ctx,zX cx c'/\c'.g=yp/\Mg c' 89 Tryz.f89 [[],[.i .i64,.i .i64,.l,.l,.l,.l]]=true/\zu c' [[],[.i .i64,.i .i64,.l,.l,.l,.l]] 1 Vf Tryz.f89 ms=some r:=by
 unfold Av at h;split at h
 ·rename_i a0 off a1 a2;cases ho0:sh off 0 with
  |true=>have:=AT ho0;subst this;exact ⟨D7,⟨rfl,rfl,rfl,rfl,rfl,rfl,rfl,rfl,rfl⟩,rfl,by kernel_rfl,(J0 _ _ _).trans h⟩
  |false=>
  rw [ho0] at h;simp only at h;cases h
 ·cases h
def Gt:GT:=bL 89 Av yp
theorem G8:SG Gt:=JZ.fnC (pos:=1) (ks:=Vf) (dh:=[[],[.i .i64,.i .i64,.l,.l,.l,.l]]) oz Ja Jg MA wa Bi Tryz.func89 (by kernel_rfl) (λ_=>rfl) J3
def gW2:GT:=ad2 72 Gt
theorem abc:dD Tryz.prog Vg gW2:=G8.alt aaK
def pX (c:List MV)(lA:MV):Option MV:=gL lA λMG=>
 cO c λSF ST bY Want N aV=>
 cr MG λlen=>
 bd (Loop (λFb=>
 gC Fb λm6 Ad=>
 gI .i64 m6 λx=>
 cO Ad λx1 x2 x3 x4 xs x5=>
 bG (decide (x<(len:Int))) (
 idx MG x λy=>
 gA y λcs=>
 dZ cs λKind eE View Value fN iW eo dy Proof KK wg wh nZ j7 jt=>
 cr x5 λgZ=>
 bd (
 bG (decide ((gZ:Int)<400)) (
 both (
 bd (eU (.list x5)) λrA=>
 gCl rA λK8=>
 cU (o9 15 K8)<|
 cr K8 λrS=>
 cr ([.agg (aF Kind eE View Value fN iW eo dy Proof KK wg wh nZ j7 jt)]:List MV) λCD=>
 cU (decide (0<CD/\(rS+CD) *192<=2^46))<|
 some (0,(bj x1 x2 x3 x4 xs (K8++([.agg (aF Kind eE View Value fN iW eo dy Proof KK wg wh nZ j7 jt)]:List MV))))) (
 bd (eU (.list x5)) λbt=>
 gCl bt λQS=>
 cU (o9 15 QS)<|
 cr QS λJh=>
 cr ([.agg (aF Kind eE View Value fN iW eo dy Proof KK wg wh nZ j7 jt)]:List MV) λFf=>
 cU (decide (0<Ff/\(Jh+Ff) *192<=2^46))<|
 some (0,(bj x1 x2 x3 x4 xs (QS++([.agg (aF Kind eE View Value fN iW eo dy Proof KK wg wh nZ j7 jt)]:List MV)))))) (
 some (0,(bj x1 x2 x3 x4 xs x5)))) λp1=>
 cU (sh p1.1 0)<|
 lQ .i64 .i64 p1.2 λx6 x7 x8 x9 Vh qK=>
 some (.inl [.i .i64 (cM .i64 (x+1)),.i .i64 x6,.i .i64 x7,.list x8,.list x9,.list Vh,.list qK])) (
 some (.inr (2,(bj x1 x2 x3 x4 xs x5))))) [.i .i64 0,.i .i64 SF,.i .i64 ST,.list bY,.list Want,.list N,.list aV]) λp=>
 cU (sh p.1 2)<|
 lQ .i64 .i64 p.2 λrR sd sn uM xs4 yb=>
 some (.dX (.dH []) (bj rR sd sn uM xs4 yb))
def Aw:GT:=bL 72 (cl2 pX) gW2
theorem CJ:dD Tryz.prog Vg Aw:=aaL abc 0 afT [] [(0,1000000)] 30 [25,26] [] [] [(4,[0,1,2,3,4,6,5,7,8,9,10,11,0,1,2,3,4,6,7,5,8,9,10,11,12,5,7])] [] [(4,⟨[0,5,6,7,8],[],[],[(0,[(1000000,.box [.k (.i .i64),.k (.i .i64),.k .l,.k .l,.own 2000004 40 false,.k .l])])],[]⟩)] [(1,⟨[0,6,7],[],[(8,.sc (.k (.i .i64))),(1000000,.box [.k (.i .i64),.k (.i .i64),.k .l,.k .l,.own 2000004 40 false,.k .l])],[(2,[(1000000,.box [.k (.i .i64),.k (.i .i64),.k .l,.k .l,.own 2000004 40 false,.k .l])])],[]⟩)] [] Tryz.func72 (by kernel_rfl) (by kernel_rfl) (Ts λ_ _=>by kernel_rfl)
def lz (c:List MV)(i:MV)(n:MV)(said:MV):Option MV:=gI .i64 i λi1=>
 gA n λcs=>
 bg cs λAg Ah Ai ek mF Aj dQ dR cQ Ak Al bO bP dS fQ dU eH ir=>
 gL said λamJ=>
 cO c λSF ST bY Want N aV=>
 idx N i1 λy=>
 gA y λgQ=>
 bg gQ λJN JO JP uw As JQ pT pU mL JR JS iY iZ pV ux om JT JU=>
 bd (pX (bj SF ST bY Want (N.set (AI i1) (.agg (aw Ag Ah Ai ek mF Aj dQ dR cQ Ak Al bO bP dS fQ dU eH ir))) aV) (.list amJ)) λrA=>
 gW rA λx ls=>
 cO ls λyW yX Fq xc N1 vG=>
 some (.dX (.dH []) (bj yW yX Fq xc N1 vG))
def B6:GT:=bL 141 (cl4 lz) Aw
theorem D8:dD Tryz.prog Vg B6:=aaL CJ 0 Gf [] [(0,1000000)] 18 [] [] [] [(1,[0,1,2,3,4,5,6,7])] [] [] [] [] Tryz.func141 (by kernel_rfl) (by kernel_rfl) (aaN λ_ _ _ _=>by kernel_rfl)
def jM (c:List MV)(i:MV)(m:MV):Option MV:=gI .i64 i λi1=>
 gA m λcs=>
 dZ cs λKind eE View Value fN iW eo dy Proof KK wg wh nZ j7 jt=>
 cO c λSF ST bY Want N aV=>
 idx N i1 λy=>
 gA y λgQ=>
 bg gQ λAg Ah Ai ek mF Aj dQ dR cQ Ak Al bO bP dS fQ dU eH ir=>
 bd (yn (.agg [.i .i64 SF,.i .i64 ST]) (.i .i64 i1) (.agg (aw Ag Ah Ai ek mF Aj dQ dR cQ Ak Al bO bP dS fQ dU eH ir)) (.agg (aF Kind eE View Value fN iW eo dy Proof KK wg wh nZ j7 jt))) λrA=>
 gT rA λvs=>
 gC vs λm40 Jo=>
 gA m40 λqg=>
 bg qg λJN JO JP uw As JQ pT pU mL JR JS iY iZ pV ux om JT JU=>
 gC Jo λm59 abd=>
 gL m59 λx=>
 gN abd<|
 bd (lz (bj SF ST bY Want N aV) (.i .i64 i1) (.agg (aw JN JO JP uw As JQ pT pU mL JR JS iY iZ pV ux om JT JU)) (.list x)) λbt=>
 gW bt λx1 ls=>
 cO ls λyW yX Fq xc N1 vG=>
 some (.dX (.dH []) (bj yW yX Fq xc N1 vG))
def vH:GT:=bL 75 (cl3 jM) B6
theorem za:dD Tryz.prog Vg vH:=aaL D8 0 Gf [] [(0,1000000)] 30 [] [] [] [(1,[0,1,2,3,4,5,6,7,8,9,10,11,12,13,14,15,16,17,18,19])] [] [] [] [] Tryz.func75 (by kernel_rfl) (by kernel_rfl) (aaM λ_ _ _=>by kernel_rfl)
def lk (c:List MV)(i:MV)(view:MV):Option MV:=gI .i64 i λi1=>
 gI .i64 view λlh=>
 cO c λSF ST bY Want N aV=>
 idx N i1 λy=>
 gA y λcs=>
 bg cs λAg Ah Ai ek mF Aj dQ dR cQ Ak Al bO bP dS fQ dU eH ir=>
 bd (vF (.agg [.i .i64 SF,.i .i64 ST]) (.i .i64 i1) (.agg (aw Ag Ah Ai ek mF Aj dQ dR cQ Ak Al bO bP dS fQ dU eH ir)) (.i .i64 lh)) λrA=>
 gT rA λvs=>
 gC vs λm24 JI=>
 gA m24 λgQ=>
 bg gQ λJN JO JP uw As JQ pT pU mL JR JS iY iZ pV ux om JT JU=>
 gC JI λm43 QT=>
 gL m43 λx=>
 gN QT<|
 bd (lz (bj SF ST bY Want N aV) (.i .i64 i1) (.agg (aw JN JO JP uw As JQ pT pU mL JR JS iY iZ pV ux om JT JU)) (.list x)) λbt=>
 gW bt λx1 ls=>
 cO ls λyW yX Fq xc N1 vG=>
 some (.dX (.dH []) (bj yW yX Fq xc N1 vG))
def yN:GT:=bL 76 (cl3 lk) vH
theorem BE:dD Tryz.prog Vg yN:=aaL za 0 Gf [] [(0,1000000)] 30 [] [] [] [(0,[0,1,2,3,4,5,6,7,8,9,10,11,12,13,14,15,16,17,18,19])] [] [] [] [] Tryz.func76 (by kernel_rfl) (by kernel_rfl) (aaM λ_ _ _=>by kernel_rfl)
def mM (c:List MV)(i:MV):Option MV:=gI .i64 i λi1=>
 cO c λSF ST bY Want N aV=>
 idx N i1 λy=>
 gA y λcs=>
 bg cs λAg Ah Ai ek mF Aj dQ dR cQ Ak Al bO bP dS fQ dU eH ir=>
 idx Want i1 λy1=>
 gS y1 λx=>
 bd (yo (.agg [.i .i64 SF,.i .i64 ST]) (.i .i64 i1) (.agg (aw Ag Ah Ai ek mF Aj dQ dR cQ Ak Al bO bP dS fQ dU eH ir)) (.s x)) λrA=>
 gT rA λvs=>
 gC vs λm24 JI=>
 gA m24 λgQ=>
 bg gQ λJN JO JP uw As JQ pT pU mL JR JS iY iZ pV ux om JT JU=>
 gC JI λm43 QT=>
 gL m43 λx1=>
 gN QT<|
 bd (lz (bj SF ST bY Want N aV) (.i .i64 i1) (.agg (aw JN JO JP uw As JQ pT pU mL JR JS iY iZ pV ux om JT JU)) (.list x1)) λbt=>
 gW bt λx2 ls=>
 cO ls λyW yX Fq xc N1 vG=>
 some (.dX (.dH []) (bj yW yX Fq xc N1 vG))
def Ax:GT:=bL 77 (cl2 mM) yN
theorem CL:dD Tryz.prog Vg Ax:=aaL BE 0 Gf [] [(0,1000000)] 34 [] [] [] [(0,[0,1,2,3,4,5,6,7,8,9,10,11,12,13,14,15,16,17,18,19,20,21,22,23,24,25])] [] [] [] [] Tryz.func77 (by kernel_rfl) (by kernel_rfl) (Ts λ_ _=>by kernel_rfl)
def gW1:GT:=ad2 72 Ax
theorem abe:SG gW1:=CL.alt ahW
def rj (c:List MV)(lA:MV):Option MV:=gL lA λMG=>
 cO c λSF ST bY Want N aV=>
 cr MG λlen=>
 bd (Loop (λFb=>
 gC Fb λm6 Ad=>
 gI .i64 m6 λx=>
 cO Ad λx1 x2 x3 x4 x5 x6=>
 bG (decide (x<(len:Int))) (
 idx MG x λy=>
 gA y λcs=>
 dZ cs λKind eE View Value fN iW eo dy Proof KK wg wh nZ j7 jt=>
 cr x6 λgZ=>
 bd (
 bG (decide ((gZ:Int)<400)) (
 both (
 bd (eU (.list x6)) λrA=>
 gCl rA λxs=>
 cU (o9 15 xs)<|
 cr xs λrS=>
 cr ([.agg (aF Kind eE View Value fN iW eo dy Proof KK wg wh nZ j7 jt)]:List MV) λCD=>
 cU (decide (0<CD/\(rS+CD) *192<=2^46))<|
 some (0,(bj x1 x2 x3 x4 x5 (xs++([.agg (aF Kind eE View Value fN iW eo dy Proof KK wg wh nZ j7 jt)]:List MV))))) (
 bd (eU (.list x6)) λbt=>
 gCl bt λK8=>
 cU (o9 15 K8)<|
 cr K8 λJh=>
 cr ([.agg (aF Kind eE View Value fN iW eo dy Proof KK wg wh nZ j7 jt)]:List MV) λFf=>
 cU (decide (0<Ff/\(Jh+Ff) *192<=2^46))<|
 some (0,(bj x1 x2 x3 x4 x5 (K8++([.agg (aF Kind eE View Value fN iW eo dy Proof KK wg wh nZ j7 jt)]:List MV)))))) (
 some (0,(bj x1 x2 x3 x4 x5 x6)))) λp1=>
 cU (sh p1.1 0)<|
 lQ .i64 .i64 p1.2 λx7 x8 x9 qK rR sd=>
 some (.inl [.i .i64 (cM .i64 (x+1)),.i .i64 x7,.i .i64 x8,.list x9,.list qK,.list rR,.list sd])) (
 some (.inr (2,(bj x1 x2 x3 x4 x5 x6))))) [.i .i64 0,.i .i64 SF,.i .i64 ST,.list bY,.list Want,.list N,.list aV]) λp=>
 cU (sh p.1 2)<|
 lQ .i64 .i64 p.2 λsn uM yb Bh xr Mv=>
 some (.dX (.dH []) (bj sn uM yb Bh xr Mv))
def B7:GT:=bL 72 (cl2 rj) gW1
theorem D9:SG B7:=fnC abe 0 afS [] [(0,1000000)] 30 [25,26] [] [] [(4,[0,1,2,3,4,6,5,7,8,9,10,11,0,1,2,3,4,6,7,5,8,9,10,11,12,5,7])] [] [(4,⟨[0,5,6,7,8],[],[],[(0,[(1000000,.box [.k (.i .i64),.k (.i .i64),.k .l,.k .l,.k .l,.k .l])])],[]⟩)] [(1,⟨[0,6,7],[],[(8,.sc (.k (.i .i64))),(1000000,.box [.k (.i .i64),.k (.i .i64),.k .l,.k .l,.k .l,.k .l])],[(2,[(1000000,.box [.k (.i .i64),.k (.i .i64),.k .l,.k .l,.k .l,.k .l])])],[]⟩)] [] Tryz.func72 (by kernel_rfl) (by kernel_rfl) (Ts λ_ _=>by kernel_rfl)
def qO (a a1:MV):Option MV:=gA a λcs=>
 cO cs λSF ST bY Want N aV=>
 gA a1 λgQ=>
 nK gQ λKind I J QI QJ QK Fc Gg DG wS qL Fe aaO QL QM Ji Bk Bl=>
 bG (decide (Kind=3)) (
 bd (yj (.agg (bj SF ST bY Want N aV)) (.agg (aF QI QJ QK Fc Gg DG wS qL Fe aaO QL QM Ji Bk Bl))) λrA=>
 gB rA λx=>
 bd (
 bG x (
 bd (rj (bj SF ST bY Want N aV) (.list ([.agg (aF QI QJ QK Fc Gg DG wS qL Fe aaO QL QM Ji Bk Bl)]:List MV))) λbt=>
 gW bt λx1 ls=>
 cO ls λyW yX Fq xc N1 vG=>
 some (0,(bj yW yX Fq xc N1 vG))) (
 some (0,(bj SF ST bY Want N aV)))) λp=>
 cU (sh p.1 0)<|
 lQ .i64 .i64 p.2 λx2 x3 x4 x5 x6 x7=>
 some (.agg (bj x2 x3 x4 x5 x6 x7))) (
 bd (fg (.agg (bj SF ST bY Want N aV)) (.i .i64 I) (.b false)) λca=>
 gB ca λx8=>
 bG (!x8) (
 some (.agg (bj SF ST bY Want N aV))) (
 bd (jq 18 256 [.list N]) λcG=>
 gF cG λxs=>
 bd (
 bG (decide (Kind=0)) (
 bd (
 bG (decide ((0:Int)<=J)) (
 cr aV λlen=>
 some [.b (decide (J<(len:Int)))]) (
 some [.b false])) λvs=>
 gC vs λm36 QQ=>
 gB m36 λx9=>
 gN QQ<|
 bd (
 bG x9 (
 idx aV J λy=>
 gA y λqg=>
 dZ qg λamK eE View Value fN iW eo dy Proof KK wg wh nZ j7 jt=>
 bd (jM (bj SF ST bY Want xs aV) (.i .i64 I) (.agg (aF amK eE View Value fN iW eo dy Proof KK wg wh nZ j7 jt))) λiw=>
 gW iw λqK ls1=>
 cO ls1 λSF2 ST2 Xd MK N2 Q2=>
 some (0,(bj SF2 ST2 Xd MK N2 Q2))) (
 some (0,(bj SF ST bY Want xs aV)))) λp2=>
 cU (sh p2.1 0)<|
 lQ .i64 .i64 p2.2 λrR sd sn uM K8 yb=>
 some (0,(bj rR sd sn uM K8 yb))) (
 bd (
 bG (decide (Kind=1)) (
 idx xs I λy1=>
 gA y1 λxq=>
 bg xq λAg Ah Ai ek mF Aj dQ dR cQ Ak Al bO bP dS fQ dU eH ir=>
 bd (lk (bj SF ST bY Want xs aV) (.i .i64 I) (.i .i64 (cM .i64 (ek+1)))) λlW=>
 gW lW λBh ls2=>
 cO ls2 λSF3 ST3 abf Q3 N3 abg=>
 some (0,(bj SF3 ST3 abf Q3 N3 abg))) (
 bd (
 bG (decide (Kind=2)) (
 bd (mM (bj SF ST bY Want xs aV) (.i .i64 I)) λsj=>
 gW sj λxr ls3=>
 cO ls3 λSF4 ST4 arm amL N4 amM=>
 some (0,(bj SF4 ST4 arm amL N4 amM))) (
 bd (
 bG (decide (Kind=4)) (
 idx xs I λy2=>
 gA y2 λcs4=>
 bg cs4 λJN JO JP uw As JQ pT pU mL JR JS iY iZ pV ux om JT JU=>
 bd (s6 (.agg [.i .i64 SF,.i .i64 ST]) (.i .i64 I) (.agg (aw JN JO JP uw As JQ pT pU mL JR JS iY iZ pV ux om JT JU))) λC4=>
 gA C4 λcs5=>
 bg cs5 λarn aro arp aih amN arq aei aej abh ars art Tx Ty aek aii ael aru arv=>
 idx xs I λy3=>
 gA y3 λcs6=>
 bg cs6 λaxv axw axx arw atB axy an3 an4 amO axz axA aij aik an5 arx an6 axB axC=>
 some (0,(bj SF ST bY Want (xs.set (AI I) (.agg (aw arn aro arp aih amN arq aei aej abh ars art Tx Ty aek aii ael aru arv))) aV))) (
 some (0,(bj SF ST bY Want xs aV)))) λp5=>
 cU (sh p5.1 0)<|
 lQ .i64 .i64 p5.2 λMv x19 X3 X4 QS Vi=>
 some (0,(bj Mv x19 X3 X4 QS Vi)))) λp4=>
 cU (sh p4.1 0)<|
 lQ .i64 .i64 p4.2 λx23 x24 x25 x26 Vh x27=>
 some (0,(bj x23 x24 x25 x26 Vh x27)))) λp3=>
 cU (sh p3.1 0)<|
 lQ .i64 .i64 p3.2 λx28 x29 x30 x31 xs4 x32=>
 some (0,(bj x28 x29 x30 x31 xs4 x32)))) λp1=>
 cU (sh p1.1 0)<|
 lQ .i64 .i64 p1.2 λx33 x34 x35 x36 xs5 x37=>
 some (.agg (bj x33 x34 x35 x36 xs5 x37))))
def ML:GT:=bL 29 (jG qO) B7
theorem Lg:SG ML:=C6 D9 [] [] 96 [17] [] [] [(12,[0,1,2,3,4,5,6,7,8,9]),(14,[0,1,2,3,4,5,6,7,8,9,10,11,12]),(18,[0,1,2,3,4,5,6,7,8,9,10,11,12,13,14,15,16])] [(11,⟨[2,3,4],[29],[],[(0,[(45,.sc (.k .b)),(5,.pt 2 0)])],[]⟩)] [(12,⟨[3,4],[],[],[(0,[(2,.box [.k (.i .i64),.k (.i .i64),.k .l,.k .l,.own 29 40 false,.k .l]),(5,.pt 2 0)])],[]⟩),(18,⟨[3,4],[],[],[(0,[(2,.box [.k (.i .i64),.k (.i .i64),.k .l,.k .l,.own 29 40 false,.k .l]),(5,.pt 2 0)])],[2000004]⟩),(16,⟨[3,4,32],[],[],[(0,[(2,.box [.k (.i .i64),.k (.i .i64),.k .l,.k .l,.own 29 40 false,.k .l]),(5,.pt 2 0)])],[]⟩),(14,⟨[3,4,32],[],[],[(0,[(2,.box [.k (.i .i64),.k (.i .i64),.k .l,.k .l,.own 29 40 false,.k .l]),(5,.pt 2 0)])],[]⟩),(11,⟨[3,4,32],[],[],[(0,[(2,.box [.k (.i .i64),.k (.i .i64),.k .l,.k .l,.own 29 40 false,.k .l]),(5,.pt 2 0)])],[]⟩),(4,⟨[3,4,5],[],[],[(0,[(2,.box [.k (.i .i64),.k (.i .i64),.k .l,.k .l,.k .l,.k .l])])],[]⟩)] [] [] Tryz.func29 (by kernel_rfl) (b9 (λ_ _=>by kernel_rfl))
def tz:Option MV:=cU (decide ((0:Int)<=4/\(4:Int)=4/\(4:Int) *1<=2^46))<| bd (Af (.agg [.i .i64 1,.i .i64 0]) (.list (aaU (AI 4) (.b false))) (.list ([.s ([97]:List UInt8),.s ([98]:List UInt8),.s ([99]:List UInt8),.s ([100]:List UInt8)]:List MV))) λrA=>
 gT rA λvs=>
 gC vs λm yV=>
 gA m λcs=>
 cO cs λSF ST bY Want N aV=>
 gC yV λm7 Ad=>
 gI .i64 m7 λx=>
 gN Ad<|
 bd (qO (.agg (bj SF ST bY Want N aV)) (.agg [.i .i64 2,.i .i64 0,.i .i64 0,.i .i64 0,.i .i64 0,.i .i64 0,.s ([]:List UInt8),.list ([]:List MV),.i .i64 0,.i .i64 0,.s ([]:List UInt8),.list ([]:List MV),.i .i64 0,.i .i64 0,.b false,.i .i64 0,.s ([]:List UInt8),.list ([]:List MV)])) λbt=>
 gA bt λgQ=>
 cO gQ λyW yX Fq xc N1 vG=>
 bd (Loop (λuk=>
 gC uk λE9 pG=>
 gI .i64 E9 λc=>
 gC pG λK6 wX=>
 gI .i64 K6 λc1=>
 gC wX λOq mG=>
 gL Oq λc2=>
 gC mG λBA kv=>
 gL BA λc3=>
 gC kv λGV nX=>
 gL GV λc4=>
 DF nX λc5 i=>
 bG (decide (i<4)) (
 bd (qO (.agg (bj c c1 c2 c3 c4 c5)) (.agg [.i .i64 0,.i .i64 i,.i .i64 0,.i .i64 0,.i .i64 0,.i .i64 0,.s ([]:List UInt8),.list ([]:List MV),.i .i64 0,.i .i64 0,.s ([]:List UInt8),.list ([]:List MV),.i .i64 0,.i .i64 0,.b false,.i .i64 0,.s ([]:List UInt8),.list ([]:List MV)])) λca=>
 gA ca λqg=>
 cO qg λSF2 ST2 Xd MK N2 Q2=>
 some (.inl [.i .i64 SF2,.i .i64 ST2,.list Xd,.list MK,.list N2,.list Q2,.i .i64 (cM .i64 (i+1))])) (
 some (.inr (2,(bj c c1 c2 c3 c4 c5))))) [.i .i64 yW,.i .i64 yX,.list Fq,.list xc,.list N1,.list vG,.i .i64 0]) λp=>
 cU (sh p.1 2)<|
 lQ .i64 .i64 p.2 λc6 c7 c8 c9 c10 c11=>
 bd (Loop (λaa0=>
 gC aa0 λm33 aa7=>
 gI .i64 m33 λc12=>
 gC aa7 λm34 QQ=>
 gI .i64 m34 λc13=>
 gC QQ λm35 QR=>
 gL m35 λc14=>
 gC QR λm36 aaP=>
 gL m36 λc15=>
 gC aaP λm37 Jo=>
 gL m37 λc16=>
 DF Jo λc17 i1=>
 bG (decide (i1<5)) (
 bd (qO (.agg (bj c12 c13 c14 c15 c16 c17)) (.agg [.i .i64 0,.i .i64 2,.i .i64 i1,.i .i64 0,.i .i64 0,.i .i64 0,.s ([]:List UInt8),.list ([]:List MV),.i .i64 0,.i .i64 0,.s ([]:List UInt8),.list ([]:List MV),.i .i64 0,.i .i64 0,.b false,.i .i64 0,.s ([]:List UInt8),.list ([]:List MV)])) λcG=>
 gA cG λxq=>
 cO xq λSF3 ST3 abf Q3 N3 abg=>
 some (.inl [.i .i64 SF3,.i .i64 ST3,.list abf,.list Q3,.list N3,.list abg,.i .i64 (cM .i64 (i1+1))])) (
 some (.inr (4,(bj c12 c13 c14 c15 c16 c17))))) [.i .i64 c6,.i .i64 c7,.list c8,.list c9,.list c10,.list c11,.i .i64 1]) λp1=>
 cU (sh p1.1 4)<|
 lQ .i64 .i64 p1.2 λc18 c19 c20 c21 c22 c23=>
 bd (nu (.agg (bj c18 c19 c20 c21 c22 c23)) (.i .i64 2)) λiw=>
 gT iw λkX=>
 gC kX λm52 QU=>
 gS m52 λx1=>
 gC QU λm53 QV=>
 gB m53 λx2=>
 gN QV<|
 bd (nu (.agg (bj c18 c19 c20 c21 c22 c23)) (.i .i64 1)) λlW=>
 gT lW λtY=>
 gC tY λm54 QW=>
 gS m54 λx3=>
 gC QW λm55 amP=>
 gB m55 λx4=>
 gN amP<|
 bd (
 bG (decide (x=0)) (
 bG x2 (
 bG (decide (x1=([97]:List UInt8))) (
 some [.b (!x4)]) (
 some [.b false])) (
 some [.b false])) (
 some [.b false])) λvs3=>
 gC vs3 λm56 abd=>
 gB m56 λx5=>
 gN abd<|
 some (.b x5)
def cA:GT:=bL 9 (ahG tz) ML
theorem B8:SG cA:=C6 Lg [] [] 58 [12] [] [] [] [(13,⟨[2,5,6,8],[],[],[(0,[(0,.sc (.k .b))])],[11]⟩)] [] [(8,⟨[2],[],[(1,.box [.k (.i .i64),.k (.i .i64),.k .l,.k .l,.k .l,.k .l]),(4,.sc (.k (.i .i64)))],[(4,[(1,.box [.k (.i .i64),.k (.i .i64),.k .l,.k .l,.k .l,.k .l])])],[11]⟩),(4,⟨[2],[],[(1,.box [.k (.i .i64),.k (.i .i64),.k .l,.k .l,.k .l,.k .l]),(3,.sc (.k (.i .i64)))],[(2,[(1,.box [.k (.i .i64),.k (.i .i64),.k .l,.k .l,.k .l,.k .l])])],[11]⟩)] [] Tryz.func9 (by kernel_rfl) (ad7 (by kernel_rfl))
def kz:CN:=⟨84,146,3,82,65,62,23,4,24,152,74,89,88,42,73,90,91,77,76,75,34,2000004,40,15⟩
def OA (t:Nat):TI:=match ua F4 t with|some I=>I|none=>⟨false,0,0,[],[],[],[],0,[]⟩
theorem ail:nH Tryz.prog cx cA kz Tryz.f34 (λk=>k) (iQ Tryz.f34 iR) where
 pos:=Tryz.func34
 name:=by kernel_rfl
 tmps:=by kernel_rfl
 res:=by kernel_rfl
 body:=by kernel_rfl
 ops:=by constructor<;>exact ⟨by kernel_rfl,by kernel_rfl,by kernel_rfl⟩
 each:=⟨Tryz.f88,λk=>k,iQ Tryz.f88 iR,⟨Tryz.func88,by kernel_rfl,by kernel_rfl,by kernel_rfl,by kernel_rfl,by constructor<;>exact ⟨by kernel_rfl,by kernel_rfl,by kernel_rfl⟩,by kernel_rfl⟩⟩
 c2:=⟨Tryz.f90,0,iQ Tryz.f90 iR,⟨Tryz.func90,by kernel_rfl,by kernel_rfl,by kernel_rfl,by kernel_rfl,⟨by kernel_rfl,by kernel_rfl,by kernel_rfl⟩,⟨by kernel_rfl,by kernel_rfl,by kernel_rfl⟩,⟨by kernel_rfl,by kernel_rfl,by kernel_rfl⟩, #[146,3,3],⟨by kernel_rfl,by kernel_rfl,by kernel_rfl⟩⟩⟩
 c3:=⟨Tryz.f91,0,iQ Tryz.f91 iR,⟨Tryz.func91,by kernel_rfl,by kernel_rfl,by kernel_rfl,by kernel_rfl,⟨by kernel_rfl,by kernel_rfl,by kernel_rfl⟩,⟨by kernel_rfl,by kernel_rfl,by kernel_rfl⟩,⟨by kernel_rfl,by kernel_rfl,by kernel_rfl⟩, #[146,3,62],⟨by kernel_rfl,by kernel_rfl,by kernel_rfl⟩⟩⟩
 hT:=oz
 mix:=wa
 d5:=by kernel_rfl
 d15:=by kernel_rfl
 fl:=rfl
 key:=λ_=>rfl
 snd:=λf ms r h=>B8.all f ms r h
 tyS:=⟨OA 84,by kernel_rfl,by kernel_rfl,by kernel_rfl,by kernel_rfl⟩
 tyP:=⟨OA 146,by kernel_rfl,by kernel_rfl,by kernel_rfl⟩
 tyi:=⟨OA 3,by kernel_rfl,by kernel_rfl,by kernel_rfl⟩
 tyN:=⟨OA 82,by kernel_rfl,by kernel_rfl,by kernel_rfl⟩
 tyM:=⟨OA 65,by kernel_rfl,by kernel_rfl,by kernel_rfl⟩
 tyB:=⟨OA 4,by kernel_rfl,by kernel_rfl,by kernel_rfl⟩
 tyb:=⟨OA 24,by kernel_rfl,by kernel_rfl,by kernel_rfl⟩
 tym:=⟨OA 62,by kernel_rfl,by kernel_rfl,by kernel_rfl⟩
 tyZ:=⟨OA 23,by kernel_rfl,by kernel_rfl,by kernel_rfl⟩
 ahm:=by kernel_rfl
 gv:=⟨by kernel_rfl,by kernel_rfl,by kernel_rfl⟩
 gvF:=by kernel_rfl
 gvC:=⟨by kernel_rfl,by kernel_rfl,by kernel_rfl,by kernel_rfl⟩
 sig:=⟨by kernel_rfl,by kernel_rfl,by kernel_rfl⟩
 ahn:=by kernel_rfl
 nM:=by kernel_rfl
def Fs (a:MV):Option MV:=U1 cA kz.k [a]
def MM:GT:=bL 34 (qE Fs) cA
theorem Lh:SG MM:=B8.add λf ms r hk hr=>by have hk:f=kz.f:=hk;subst hk;exact ad1 ail (by decide) (eI (B:=U1 cA kz.k) (λ_=>rfl) hr)
def wo (a a1:MV):Option MV:=gA a λcs=>
 gC cs λm yV=>
 gI .i64 m λSF=>
 gC yV λm1 wb=>
 gI .i64 m1 λST=>
 gC wb λm2 pE=>
 gL m2 λbY=>
 gC pE λm3 CB=>
 gL m3 λWant=>
 gN CB<|
 gL a1 λlZ=>
 bd (Bj (.agg [.i .i64 SF,.i .i64 ST,.list bY,.list Want]) (.list lZ)) λrA=>
 gB rA λx=>
 bG (!x) (
 bd (tz) λbt=>
 gB bt λx1=>
 some (.b x1)) (
 bd (Af (.agg [.i .i64 SF,.i .i64 ST]) (.list bY) (.list Want)) λca=>
 gT ca λvs=>
 gC vs λm4 CC=>
 gA m4 λgQ=>
 cO gQ λyW yX Fq xc N aV=>
 gC CC λJc uj=>
 gI .i64 Jc λx2=>
 gN uj<|
 bG (!decide (x2=0)) (
 bd (tz) λcG=>
 gB cG λx3=>
 some (.b x3)) (
 bd (Loop (λlg=>
 gC lg λCA rU=>
 gI .i64 CA λx4=>
 gC rU λJd uk=>
 gI .i64 Jd λx5=>
 gC uk λE9 pG=>
 gL E9 λx6=>
 gC pG λK6 wX=>
 gL K6 λx7=>
 gC wX λOq mG=>
 gL Oq λx8=>
 gC mG λBA kv=>
 gL BA λx9=>
 gC kv λGV nX=>
 gB GV λqK=>
 gC nX λWZ rV=>
 gS WZ λrR=>
 gC rV λTu Ae=>
 gI .i64 Tu λsd=>
 gN Ae<|
 cr lZ λlen=>
 bG (decide (sd<(len:Int))) (
 idx lZ sd λy=>
 gA y λqg=>
 nK qg λKind I J QI QJ QK Fc Gg DG wS qL Fe aaO QL QM Ji Bk Bl=>
 bd (qO (.agg (bj x4 x5 x6 x7 x8 x9)) (.agg [.i .i64 Kind,.i .i64 I,.i .i64 J,.i .i64 QI,.i .i64 QJ,.i .i64 QK,.s Fc,.list Gg,.i .i64 DG,.i .i64 wS,.s qL,.list Fe,.i .i64 aaO,.i .i64 QL,.b QM,.i .i64 Ji,.s Bk,.list Bl])) λiw=>
 gA iw λxq=>
 cO xq λSF2 ST2 Xd MK N1 vG=>
 bd (uy (.agg (bj SF2 ST2 Xd MK N1 vG)) (.b qK) (.s rR)) λlW=>
 gT lW λkX=>
 gC kX λm45 amQ=>
 gB m45 λsn=>
 gC amQ λm46 amR=>
 gB m46 λuM=>
 gC amR λm47 amS=>
 gS m47 λyb=>
 gN amS<|
 bG (!sn) (
 some (.inr (1,[.b false]))) (
 some (.inl [.i .i64 SF2,.i .i64 ST2,.list Xd,.list MK,.list N1,.list vG,.b uM,.s yb,.i .i64 (cM .i64 (sd+1))]))) (
 some (.inr (2,[.i .i64 x4,.i .i64 x5,.list x6,.list x7,.list x8,.list x9,.b qK,.s rR])))) [.i .i64 yW,.i .i64 yX,.list Fq,.list xc,.list N,.list aV,.b false,.s ([]:List UInt8),.i .i64 0]) λp=>
 bG (sh p.1 2) (
 gC p.2 λm48 aa8=>
 gI .i64 m48 λBh=>
 gC aa8 λm49 aa9=>
 gI .i64 m49 λxr=>
 gC aa9 λm50 aba=>
 gL m50 λMv=>
 gC aba λm51 aaX=>
 gL m51 λx19=>
 gC aaX λm52 aaY=>
 gL m52 λX3=>
 gC aaY λm53 QU=>
 gL m53 λX4=>
 gC QU λm54 QV=>
 gB m54 λVi=>
 gC QV λm55 QW=>
 gS m55 λx23=>
 gN QW<|
 bd (Fs (.agg (bj Bh xr Mv x19 X3 X4))) λsj=>
 gA sj λcs4=>
 cO cs4 λSF3 ST3 abf Q3 N2 Q2=>
 bd (uy (.agg (bj SF3 ST3 abf Q3 N2 Q2)) (.b Vi) (.s x23)) λC4=>
 gT C4 λtY=>
 gC tY λm62 abb=>
 gB m62 λx24=>
 gC abb λm63 amT=>
 gB m63 λx25=>
 gC amT λm64 amU=>
 gS m64 λx26=>
 gN amU<|
 bd (
 bd (tz) λrA8=>
 gB rA8 λx27=>
 bG x27 (
 some [.b x24]) (
 some [.b false])) λvs3=>
 gC vs3 λm65 amV=>
 gB m65 λx28=>
 gN amV<|
 some (.b x28)) (
 cU (sh p.1 1)<|
 gC p.2 λm66 amW=>
 gB m66 λx29=>
 gN amW<|
 some (.b x29))))
def Li:GT:=bL 6 (jG wo) MM
theorem Ea:SG Li:=C6 Lh [] [] 71 [] [] [] [(10,[0,1,2,3,4,5,6])] [(16,⟨[13],[],[],[(0,[(4,.sc (.k .b))])],[]⟩)] [] [(8,⟨[1],[],[(5,.box [.k (.i .i64),.k (.i .i64),.k .l,.k .l,.k .l,.k .l]),(7,.sc (.k .b)),(8,.sc (.k .s)),(9,.sc (.k (.i .i64)))],[(1,[(4,.sc (.k .b))]),(2,[(5,.box [.k (.i .i64),.k (.i .i64),.k .l,.k .l,.k .l,.k .l]),(7,.sc (.k .b)),(8,.sc (.k .s))])],[]⟩)] [] Tryz.func6 (by kernel_rfl) (b9 (λ_ _=>by kernel_rfl))
end
end Dn.S
