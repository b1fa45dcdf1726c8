import Derived.Test.YtmdlghpieagfhaaGreatDnYTab
import Derived.Test.YtmdlghpieagfhaaGreatDnC
import Derived.Test.YtmdlghpieagfhaaGreatDnD
import Derived.Test.YtmdlghpieagfhaaGreatDnYT
import Derived.KernelRfl
import Derived.Test.YtmdlghpieagfhaaGreatProg
/- Plain functions. Conditions: none. -/
set_option linter.unusedVariables false
set_option linter.unusedSimpArgs false
open Go.IntKind renaming wrap→cV,bits→BY
open Nat renaming beq→sh,eq_of_beq_eq_true→AT,le_of_ble_eq_true→IT
open Int renaming toNat→AI,fdiv→aaJ
open Go.Extern.SlicesOverlaps renaming overlaps→No
open List renaming drop→OF,take→aau,replicate→aaK
open Go.FloatKind renaming nearest→aaP
open Option.some renaming injEq→aaU
open Go Dn Go.Proofs
set_option maxRecDepth 100000
namespace Dn.S
noncomputable section
theorem oS:kq Tryz.prog (uk Gy):=Ou (by kernel_rfl)
theorem Jv:NU Tryz.prog (uk Gy):=Xb (by kernel_rfl)
theorem wv:Tryz.prog.follows .mixedOrders=true:=by kernel_rfl
def oII {R:Type}(k0 k1:IntKind)(l0:List MV)(K:Int->Int->Option R):Option R:=gC l0 λm0 l1=>gI k0 m0 λx0=>gC l1 λm1 l2=>gI k1 m1 λx1=>gN l2<|K x0 x1
def VL {R:Type}(k0 k1 k3:IntKind)(l0:List MV)(K:Int->Int->Bool->Int->List UInt8->List MV->Option R):Option R:=gC l0 λm0 l1=>gI k0 m0 λx0=>gC l1 λm1 l2=>gI k1 m1 λx1=>gC l2 λm2 l3=>gB m2 λx2=>gC l3 λm3 l4=>gI k3 m3 λx3=>gC l4 λm4 l5=>gS m4 λx4=>gC l5 λm5 l6=>gL m5 λx5=>gN l6<|K x0 x1 x2 x3 x4 x5
def Jw {R:Type}(k0 k1 k2 k3 k5:IntKind)(l0:List MV)(K:Int->Int->Int->Int->Bool->Int->List UInt8->List MV->List MV->Option R):Option R:=gC l0 λm0 l1=>gI k0 m0 λx0=>gC l1 λm1 l2=>gI k1 m1 λx1=>gC l2 λm2 l3=>gI k2 m2 λx2=>gC l3 λm3 l4=>gI k3 m3 λx3=>gC l4 λm4 l5=>gB m4 λx4=>gC l5 λm5 l6=>gI k5 m5 λx5=>gC l6 λm6 l7=>gS m6 λx6=>gC l7 λm7 l8=>gL m7 λx7=>gC l8 λm8 l9=>gL m8 λx8=>gN l9<|K x0 x1 x2 x3 x4 x5 x6 x7 x8
def fR {R:Type}(k0 k1 k2 k3 k5 k9 VM k17:IntKind)(l0:List MV)(K:Int->Int->Int->Int->Bool->Int->List UInt8->List MV->List MV->Int->Int->List MV->List MV->List MV->Bool->List UInt8->List MV->Int->Option R):Option R:=gC l0 λm0 l1=>gI k0 m0 λx0=>gC l1 λm1 l2=>gI k1 m1 λx1=>gC l2 λm2 l3=>gI k2 m2 λx2=>gC l3 λm3 l4=>gI k3 m3 λx3=>gC l4 λm4 l5=>gB m4 λx4=>gC l5 λm5 l6=>gI k5 m5 λx5=>gC l6 λm6 l7=>gS m6 λx6=>gC l7 λm7 l8=>gL m7 λx7=>gC l8 λm8 l9=>gL m8 λx8=>gC l9 λm9 l10=>gI k9 m9 λx9=>gC l10 λOV l11=>gI VM OV λqE=>gC l11 λLy l12=>gL Ly λsB=>gC l12 λFE l13=>gL FE λsQ=>gC l13 λOW l14=>gL OW λsG=>gC l14 λLz l15=>gB Lz λuY=>gC l15 λT6 l16=>gS T6 λyt=>gC l16 λXF l17=>gL XF λBI=>gC l17 λFF l18=>gI k17 FF λxi=>gN l18<|K x0 x1 x2 x3 x4 x5 x6 x7 x8 x9 qE sB sQ sG uY yt BI xi
def jR {R:Type}(k0 k1 k2 k3 k5 k9 VM k17:IntKind)(l0:List MV)(K:Int->Int->Int->Int->Bool->Int->List UInt8->List MV->List MV->Int->Int->List MV->List MV->List MV->Bool->List UInt8->List MV->Int->List MV->Option R):Option R:=gC l0 λm0 l1=>gI k0 m0 λx0=>gC l1 λm1 l2=>gI k1 m1 λx1=>gC l2 λm2 l3=>gI k2 m2 λx2=>gC l3 λm3 l4=>gI k3 m3 λx3=>gC l4 λm4 l5=>gB m4 λx4=>gC l5 λm5 l6=>gI k5 m5 λx5=>gC l6 λm6 l7=>gS m6 λx6=>gC l7 λm7 l8=>gL m7 λx7=>gC l8 λm8 l9=>gL m8 λx8=>gC l9 λm9 l10=>gI k9 m9 λx9=>gC l10 λOV l11=>gI VM OV λqE=>gC l11 λLy l12=>gL Ly λsB=>gC l12 λFE l13=>gL FE λsQ=>gC l13 λOW l14=>gL OW λsG=>gC l14 λLz l15=>gB Lz λuY=>gC l15 λT6 l16=>gS T6 λyt=>gC l16 λXF l17=>gL XF λBI=>gC l17 λFF l18=>gI k17 FF λxi=>gC l18 λOX l19=>gL OX λLd=>gN l19<|K x0 x1 x2 x3 x4 x5 x6 x7 x8 x9 qE sB sQ sG uY yt BI xi Ld
def sR {R:Type}(k0 k1 k2 k3 k4 k5 k8 k9 k12 k13 k15:IntKind)(l0:List MV)(K:Int->Int->Int->Int->Int->Int->List UInt8->List MV->Int->Int->List UInt8->List MV->Int->Int->Bool->Int->List UInt8->List MV->Option R):Option R:=gC l0 λm0 l1=>gI k0 m0 λx0=>gC l1 λm1 l2=>gI k1 m1 λx1=>gC l2 λm2 l3=>gI k2 m2 λx2=>gC l3 λm3 l4=>gI k3 m3 λx3=>gC l4 λm4 l5=>gI k4 m4 λx4=>gC l5 λm5 l6=>gI k5 m5 λx5=>gC l6 λm6 l7=>gS m6 λx6=>gC l7 λm7 l8=>gL m7 λx7=>gC l8 λm8 l9=>gI k8 m8 λx8=>gC l9 λm9 l10=>gI k9 m9 λx9=>gC l10 λOV l11=>gS OV λqE=>gC l11 λLy l12=>gL Ly λsB=>gC l12 λFE l13=>gI k12 FE λsQ=>gC l13 λOW l14=>gI k13 OW λsG=>gC l14 λLz l15=>gB Lz λuY=>gC l15 λT6 l16=>gI k15 T6 λyt=>gC l16 λXF l17=>gS XF λBI=>gC l17 λFF l18=>gL FF λxi=>gN l18<|K x0 x1 x2 x3 x4 x5 x6 x7 x8 x9 qE sB sQ sG uY yt BI xi
def ny {R:Type}(k0 k1 k2 k5 k6 k9 VM k12:IntKind)(l0:List MV)(K:Int->Int->Int->List UInt8->List MV->Int->Int->List UInt8->List MV->Int->Int->Bool->Int->List UInt8->List MV->Option R):Option R:=gC l0 λm0 l1=>gI k0 m0 λx0=>gC l1 λm1 l2=>gI k1 m1 λx1=>gC l2 λm2 l3=>gI k2 m2 λx2=>gC l3 λm3 l4=>gS m3 λx3=>gC l4 λm4 l5=>gL m4 λx4=>gC l5 λm5 l6=>gI k5 m5 λx5=>gC l6 λm6 l7=>gI k6 m6 λx6=>gC l7 λm7 l8=>gS m7 λx7=>gC l8 λm8 l9=>gL m8 λx8=>gC l9 λm9 l10=>gI k9 m9 λx9=>gC l10 λOV l11=>gI VM OV λqE=>gC l11 λLy l12=>gB Ly λsB=>gC l12 λFE l13=>gI k12 FE λsQ=>gC l13 λOW l14=>gS OW λsG=>gC l14 λLz l15=>gL Lz λuY=>gN l15<|K x0 x1 x2 x3 x4 x5 x6 x7 x8 x9 qE sB sQ sG uY
def Ay {R:Type}(k0 k1:IntKind)(l0:List MV)(K:Int->Int->List MV->List MV->List MV->Bool->List UInt8->Option R):Option R:=gC l0 λm0 l1=>gI k0 m0 λx0=>gC l1 λm1 l2=>gI k1 m1 λx1=>gC l2 λm2 l3=>gL m2 λx2=>gC l3 λm3 l4=>gL m3 λx3=>gC l4 λm4 l5=>gL m4 λx4=>gC l5 λm5 l6=>gB m5 λx5=>gC l6 λm6 l7=>gS m6 λx6=>gN l7<|K x0 x1 x2 x3 x4 x5 x6
def lk {R:Type}(k0 k1:IntKind)(l0:List MV)(K:Int->Int->List MV->List MV->List MV->List MV->Option R):Option R:=gC l0 λm0 l1=>gI k0 m0 λx0=>gC l1 λm1 l2=>gI k1 m1 λx1=>gC l2 λm2 l3=>gL m2 λx2=>gC l3 λm3 l4=>gL m3 λx3=>gC l4 λm4 l5=>gL m4 λx4=>gC l5 λm5 l6=>gL m5 λx5=>gN l6<|K x0 x1 x2 x3 x4 x5
def Jx {R:Type}(k0 k1 k6:IntKind)(l0:List MV)(K:Int->Int->List MV->List MV->List MV->List MV->Int->Option R):Option R:=gC l0 λm0 l1=>gI k0 m0 λx0=>gC l1 λm1 l2=>gI k1 m1 λx1=>gC l2 λm2 l3=>gL m2 λx2=>gC l3 λm3 l4=>gL m3 λx3=>gC l4 λm4 l5=>gL m4 λx4=>gC l5 λm5 l6=>gL m5 λx5=>gC l6 λm6 l7=>gI k6 m6 λx6=>gN l7<|K x0 x1 x2 x3 x4 x5 x6
def amM {R:Type}(k0 k1:IntKind)(l0:List MV)(K:Int->Int->List UInt8->Option R):Option R:=gC l0 λm0 l1=>gI k0 m0 λx0=>gC l1 λm1 l2=>gI k1 m1 λx1=>gC l2 λm2 l3=>gS m2 λx2=>gN l3<|K x0 x1 x2
def aeP {R:Type}(k0:IntKind)(l0:List MV)(K:Int->List UInt8->Bool->Option R):Option R:=gC l0 λm0 l1=>gI k0 m0 λx0=>gC l1 λm1 l2=>gS m1 λx1=>gC l2 λm2 l3=>gB m2 λx2=>gN l3<|K x0 x1 x2
def oLI {R:Type}(k1:IntKind)(l0:List MV)(K:List MV->Int->Option R):Option R:=gC l0 λm0 l1=>gL m0 λx0=>gC l1 λm1 l2=>gI k1 m1 λx1=>gN l2<|K x0 x1
abbrev nP {R:Type}:= @sR R .i64 .i64 .i64 .i64 .i64 .i64 .i64 .i64 .i64 .i64 .i64
abbrev iu {R:Type}:= @VL R .i64 .i64 .i64
abbrev Dw {R:Type}:= @oII R .i64 .i64
abbrev iz {R:Type}:= @Jw R .i64 .i64 .i64 .i64 .i64
abbrev ik {R:Type}:= @Ay R .i64 .i64
abbrev ba {R:Type}:= @fR R .i64 .i64 .i64 .i64 .i64 .i64 .i64 .i64
abbrev dj {R:Type}:= @lk R .i64 .i64
abbrev GJ {R:Type}:= @oLI R .i64
abbrev mq {R:Type}:= @amM R .i64 .i64
abbrev OY {R:Type}:= @aeP R .i64
abbrev eC {R:Type}:= @ny R .i64 .i64 .i64 .i64 .i64 .i64 .i64 .i64
abbrev Jy {R:Type}:= @Jx R .i64 .i64 .i64
@[reducible] def gd (x0 : Int)(x1 : Int)(x2 : Bool)(x3 : Int)(x4 : List UInt8)(x5 : List MV) : List MV := [.i .i64 x0, .i .i64 x1, .b x2, .i .i64 x3, .s x4, .list x5]
@[reducible] def df (x0 : Int)(x1 : Int)(x2 : Int)(x3 : Int)(x4 : Bool)(x5 : Int)(x6 : List UInt8)(x7 : List MV)(x8 : List MV) : List MV := [.i .i64 x0, .i .i64 x1, .i .i64 x2, .i .i64 x3, .b x4, .i .i64 x5, .s x6, .list x7, .list x8]
@[reducible] def aw (x0 : Int)(x1 : Int)(x2 : Int)(x3 : Int)(x4 : Bool)(x5 : Int)(x6 : List UInt8)(x7 : List MV)(x8 : List MV)(x9 : Int)(qE : Int)(sB : List MV)(sQ : List MV)(sG : List MV)(uY : Bool)(yt : List UInt8)(BI : List MV)(xi : Int) : List MV := [.i .i64 x0, .i .i64 x1, .i .i64 x2, .i .i64 x3, .b x4, .i .i64 x5, .s x6, .list x7, .list x8, .i .i64 x9, .i .i64 qE, .list sB, .list sQ, .list sG, .b uY, .s yt, .list BI, .i .i64 xi]
@[reducible] def eh (x0 : Int)(x1 : Int)(x2 : Int)(x3 : Int)(x4 : Bool)(x5 : Int)(x6 : List UInt8)(x7 : List MV)(x8 : List MV)(x9 : Int)(qE : Int)(sB : List MV)(sQ : List MV)(sG : List MV)(uY : Bool)(yt : List UInt8)(BI : List MV)(xi : Int)(Ld : List MV) : List MV := [.i .i64 x0, .i .i64 x1, .i .i64 x2, .i .i64 x3, .b x4, .i .i64 x5, .s x6, .list x7, .list x8, .i .i64 x9, .i .i64 qE, .list sB, .list sQ, .list sG, .b uY, .s yt, .list BI, .i .i64 xi, .list Ld]
@[reducible] def aF (x0 : Int)(x1 : Int)(x2 : Int)(x3 : List UInt8)(x4 : List MV)(x5 : Int)(x6 : Int)(x7 : List UInt8)(x8 : List MV)(x9 : Int)(qE : Int)(sB : Bool)(sQ : Int)(sG : List UInt8)(uY : List MV) : List MV := [.i .i64 x0, .i .i64 x1, .i .i64 x2, .s x3, .list x4, .i .i64 x5, .i .i64 x6, .s x7, .list x8, .i .i64 x9, .i .i64 qE, .b sB, .i .i64 sQ, .s sG, .list uY]
@[reducible] def cY (x0 : Int)(x1 : Int)(x2 : List MV)(x3 : List MV)(x4 : List MV)(x5 : Bool)(x6 : List UInt8) : List MV := [.i .i64 x0, .i .i64 x1, .list x2, .list x3, .list x4, .b x5, .s x6]
@[reducible] def bk (x0 : Int)(x1 : Int)(x2 : List MV)(x3 : List MV)(x4 : List MV)(x5 : List MV) : List MV := [.i .i64 x0, .i .i64 x1, .list x2, .list x3, .list x4, .list x5]
@[reducible] def pQ (x0 : Int)(x1 : Int)(x2 : List MV)(x3 : List MV)(x4 : List MV)(x5 : List MV)(x6 : Int) : List MV := [.i .i64 x0, .i .i64 x1, .list x2, .list x3, .list x4, .list x5, .i .i64 x6]
def Jz:List (Nat×pv)->Nat->pv
 |[],_=>default
 |(k,s)::r,t=>bif sh k t then s else Jz r t
def Rc:List (Nat×List Nat)->Nat->List Nat
 |[],_=>[]
 |(k,s)::r,t=>bif sh k t then s else Rc r t
def Re:List (Nat×Nat)->Nat->Nat
 |[],_=>0
 |(k,s)::r,t=>bif sh k t then s else Re r t
def kk (n:Nat):Nat:=n
def gv (n:Nat):Bool:=bJ [108,157,47,72,75,76,77,89,101,126,127,128,141] n
def frs (n:Nat):Bool:=bJ [59,69,70,74,108,156,157,170,131,132,174,137,138,187,140,151] n
def VN:List (Nat×Nat):=[(59,60),(69,4),(70,9),(74,40),(108,60),(156,58),(157,58),(170,5),(131,5),(132,5),(174,5),(137,5),(138,5)]
def JA:List (Nat×FloatKind)->Nat->Option FloatKind
 |[],_=>none
 |(k,s)::r,t=>bif sh k t then some s else JA r t
def MY:List (Nat×FloatKind):=[(215,.f64)]
theorem JB: ∀t k,JA MY t=some k->Tryz.prog.underlying t=some (.float k):=by
 intro t k h;unfold MY at h;simp only [JA] at h;cases hb:sh 215 t with
 |true=>rw [hb] at h;have ht:=AT hb;subst ht;simp only [cond_true,aaU] at h;subst h;exact Tryz.underlying215
 |false=>
 rw [hb] at h;simp only [cond_false] at h;cases h
def MZ:List (Nat×(Nat×Bool)):=[(197,(9,false)),(249,(251,false))]
def GK:List (Nat×(Nat×List LK))->Nat->Option (Nat×List LK)
 |[],_=>none
 |(k,s)::r,t=>bif sh k t then some s else GK r t
abbrev agD:List LK:=[.k (.i .i64),.k (.i .i64),.k (.i .i64),.k (.i .i64),.k (.b),.k (.i .i64),.k (.s),.k (.l),.k (.l),.k (.i .i64),.k (.i .i64),.k (.l),.k (.l),.k (.l),.k (.b),.k (.s),.k (.l),.k (.i .i64)]
abbrev agE:List LK:=[.k (.i .i64),.k (.i .i64),.k (.l),.k (.l),.k (.l),.k (.l)]
abbrev GL:List LK:=[.k (.i .i64),.k (.i .i64),.k (.l),.k (.l),.own 2000004 40 false,.k (.l)]
abbrev VO:List LK:=[.k (.i .i64)]
abbrev M0:List LK:=[.k (.i .i64),.k (.i .i64),.k (.l),.k (.l),.k (.l),.k (.b),.k (.s)]
abbrev M1:List LK:=[.k (.l),.k (.i .i64)]
def OZ:List (Nat×(Nat×List LK)):=[(47,(0,agD)),(72,(0,agE)),(75,(0,GL)),(76,(0,GL)),(77,(0,GL)),(89,(1,VO)),(101,(1,M0)),(126,(0,M1)),(127,(0,M1)),(128,(0,M1)),(141,(0,GL))]
def dl (n:Nat):Bool:=bJ [] n
def cx:Ctx:=⟨uk Gy,kk,λ_ _=>none,gv,frs,Re VN,GK OZ,[],0,[],[],λ_=>[],JA MY,DR MZ,λ_=>[],λ_=>default,λ_=>default,λ_=>default,dl,[]⟩
def O0 (g:Nat->List MV->Option MV)(par:List (Nat×Nat))(n:Nat)(bs fl:List Nat)(fz ord:List (Nat×List Nat))(zp Bk wM:List (Nat×pv))(dyn:List Nat):Ctx:=⟨uk Gy,kk,g,gv,frs,Re VN,GK OZ,par,n,bs,fl,Rc fz,JA MY,DR MZ,Rc ord,Jz zp,Jz Bk,Jz wM,dl,dyn⟩
theorem M2:xZ Tryz.prog cx:=I5 (l:=MZ) (by kernel_rfl) (λ_ _ h=>h)
def mr (t:Nat):TI:=match uk Gy t with|some I=>I|none=>⟨false,0,0,[],[],[],[],0,[]⟩
theorem tv4:cx.tv 4=some (mr 4):=by kernel_rfl
theorem tv9:cx.tv 9=some (mr 9):=by kernel_rfl
theorem arf:cx.tv 24=some (mr 24):=by kernel_rfl
theorem arh:cx.tv 25=some (mr 25):=by kernel_rfl
theorem amN:cx.tv 31=some (mr 31):=by kernel_rfl
theorem amO:cx.tv 38=some (mr 38):=by kernel_rfl
theorem ari:cx.tv 40=some (mr 40):=by kernel_rfl
theorem amP:cx.tv 58=some (mr 58):=by kernel_rfl
theorem amQ:cx.tv 60=some (mr 60):=by kernel_rfl
theorem arj:cx.tv 82=some (mr 82):=by kernel_rfl
theorem BJ:sF Tryz.prog cx:=by intro n hn;unfold cx dl bJ at hn;cases hn
abbrev GT:=Nat->List MV->Option MV
abbrev SG (g:GT):Prop:=dL Tryz.prog cx g
theorem aiA {g:GT}(h:SG g):SG (bN 59 (jD 6 72) g):=h.TY (λ_=>rfl) (λms r hr=>by obtain ⟨xs,rfl,rfl,h1,h2⟩:=rX hr;exact Ao (P:=Tryz.prog) (c:=cx) (f:=59) (fn:=Tryz.f59) (t:=38) (I:=mr 38) (E:=mr 60) (i0:=0) (i1:=1) (i2:=2) (i3:=3) (oA:=iZ Tryz.f59 ja 0) (oB:=iZ Tryz.f59 ja 1) (oC:=iZ Tryz.f59 ja 2) (oD:=iZ Tryz.f59 ja 3) (oE:=iZ Tryz.f59 ja 4) (oF:=iZ Tryz.f59 ja 5) (oG:=iZ Tryz.f59 ja 6) (oH:=iZ Tryz.f59 ja 7) oS amO (by kernel_rfl) amQ (IT (by kernel_rfl)) (by kernel_rfl) (by kernel_rfl) Tryz.func59 (by kernel_rfl) (by kernel_rfl) (by kernel_rfl) (by kernel_rfl) ⟨by kernel_rfl,by kernel_rfl,by kernel_rfl⟩ ⟨by kernel_rfl,by kernel_rfl,by kernel_rfl⟩ ⟨by kernel_rfl,by kernel_rfl,by kernel_rfl⟩ ⟨by kernel_rfl,by kernel_rfl,by kernel_rfl⟩ ⟨by kernel_rfl,by kernel_rfl,by kernel_rfl⟩ ⟨by kernel_rfl,by kernel_rfl,by kernel_rfl⟩ ⟨by kernel_rfl,by kernel_rfl,by kernel_rfl⟩ ⟨by kernel_rfl,by kernel_rfl,by kernel_rfl⟩ (by rw [show (mr 60).size=6 by kernel_rfl];exact h1) (by rw [show (mr 60).bytes=72 by kernel_rfl];exact h2))
theorem aiB {g:GT}(h:SG g):SG (bN 69 (jD 1 1) g):=h.TY (λ_=>rfl) (λms r hr=>by obtain ⟨xs,rfl,rfl,h1,h2⟩:=rX hr;exact Ao (P:=Tryz.prog) (c:=cx) (f:=69) (fn:=Tryz.f69) (t:=24) (I:=mr 24) (E:=mr 4) (i0:=0) (i1:=1) (i2:=2) (i3:=3) (oA:=iZ Tryz.f69 ja 0) (oB:=iZ Tryz.f69 ja 1) (oC:=iZ Tryz.f69 ja 2) (oD:=iZ Tryz.f69 ja 3) (oE:=iZ Tryz.f69 ja 4) (oF:=iZ Tryz.f69 ja 5) (oG:=iZ Tryz.f69 ja 6) (oH:=iZ Tryz.f69 ja 7) oS arf (by kernel_rfl) tv4 (IT (by kernel_rfl)) (by kernel_rfl) (by kernel_rfl) Tryz.func69 (by kernel_rfl) (by kernel_rfl) (by kernel_rfl) (by kernel_rfl) ⟨by kernel_rfl,by kernel_rfl,by kernel_rfl⟩ ⟨by kernel_rfl,by kernel_rfl,by kernel_rfl⟩ ⟨by kernel_rfl,by kernel_rfl,by kernel_rfl⟩ ⟨by kernel_rfl,by kernel_rfl,by kernel_rfl⟩ ⟨by kernel_rfl,by kernel_rfl,by kernel_rfl⟩ ⟨by kernel_rfl,by kernel_rfl,by kernel_rfl⟩ ⟨by kernel_rfl,by kernel_rfl,by kernel_rfl⟩ ⟨by kernel_rfl,by kernel_rfl,by kernel_rfl⟩ (by rw [show (mr 4).size=1 by kernel_rfl];exact h1) (by rw [show (mr 4).bytes=1 by kernel_rfl];exact h2))
theorem aiC {g:GT}(h:SG g):SG (bN 70 (jD 1 16) g):=h.TY (λ_=>rfl) (λms r hr=>by obtain ⟨xs,rfl,rfl,h1,h2⟩:=rX hr;exact Ao (P:=Tryz.prog) (c:=cx) (f:=70) (fn:=Tryz.f70) (t:=25) (I:=mr 25) (E:=mr 9) (i0:=0) (i1:=1) (i2:=2) (i3:=3) (oA:=iZ Tryz.f70 ja 0) (oB:=iZ Tryz.f70 ja 1) (oC:=iZ Tryz.f70 ja 2) (oD:=iZ Tryz.f70 ja 3) (oE:=iZ Tryz.f70 ja 4) (oF:=iZ Tryz.f70 ja 5) (oG:=iZ Tryz.f70 ja 6) (oH:=iZ Tryz.f70 ja 7) oS arh (by kernel_rfl) tv9 (IT (by kernel_rfl)) (by kernel_rfl) (by kernel_rfl) Tryz.func70 (by kernel_rfl) (by kernel_rfl) (by kernel_rfl) (by kernel_rfl) ⟨by kernel_rfl,by kernel_rfl,by kernel_rfl⟩ ⟨by kernel_rfl,by kernel_rfl,by kernel_rfl⟩ ⟨by kernel_rfl,by kernel_rfl,by kernel_rfl⟩ ⟨by kernel_rfl,by kernel_rfl,by kernel_rfl⟩ ⟨by kernel_rfl,by kernel_rfl,by kernel_rfl⟩ ⟨by kernel_rfl,by kernel_rfl,by kernel_rfl⟩ ⟨by kernel_rfl,by kernel_rfl,by kernel_rfl⟩ ⟨by kernel_rfl,by kernel_rfl,by kernel_rfl⟩ (by rw [show (mr 9).size=1 by kernel_rfl];exact h1) (by rw [show (mr 9).bytes=16 by kernel_rfl];exact h2))
theorem aiD {g:GT}(h:SG g):SG (bN 74 (jD 18 256) g):=h.TY (λ_=>rfl) (λms r hr=>by obtain ⟨xs,rfl,rfl,h1,h2⟩:=rX hr;exact Ao (P:=Tryz.prog) (c:=cx) (f:=74) (fn:=Tryz.f74) (t:=82) (I:=mr 82) (E:=mr 40) (i0:=0) (i1:=1) (i2:=2) (i3:=3) (oA:=iZ Tryz.f74 ja 0) (oB:=iZ Tryz.f74 ja 1) (oC:=iZ Tryz.f74 ja 2) (oD:=iZ Tryz.f74 ja 3) (oE:=iZ Tryz.f74 ja 4) (oF:=iZ Tryz.f74 ja 5) (oG:=iZ Tryz.f74 ja 6) (oH:=iZ Tryz.f74 ja 7) oS arj (by kernel_rfl) ari (IT (by kernel_rfl)) (by kernel_rfl) (by kernel_rfl) Tryz.func74 (by kernel_rfl) (by kernel_rfl) (by kernel_rfl) (by kernel_rfl) ⟨by kernel_rfl,by kernel_rfl,by kernel_rfl⟩ ⟨by kernel_rfl,by kernel_rfl,by kernel_rfl⟩ ⟨by kernel_rfl,by kernel_rfl,by kernel_rfl⟩ ⟨by kernel_rfl,by kernel_rfl,by kernel_rfl⟩ ⟨by kernel_rfl,by kernel_rfl,by kernel_rfl⟩ ⟨by kernel_rfl,by kernel_rfl,by kernel_rfl⟩ ⟨by kernel_rfl,by kernel_rfl,by kernel_rfl⟩ ⟨by kernel_rfl,by kernel_rfl,by kernel_rfl⟩ (by rw [show (mr 40).size=18 by kernel_rfl];exact h1) (by rw [show (mr 40).bytes=256 by kernel_rfl];exact h2))
theorem aiE:MH Tryz.prog 108 38 3 4 60 163 Tryz.f108 (λk=>k) (iZ Tryz.f108 ja) (VH (iZ Tryz.f108 ja)):=by refine ⟨Tryz.func108,by kernel_rfl,by kernel_rfl,by kernel_rfl,by kernel_rfl,?_,wv,by kernel_rfl⟩;constructor<;>first|exact ⟨by kernel_rfl,by kernel_rfl,by kernel_rfl⟩|kernel_rfl
theorem amR: ∀args w,(callFunc 163 args).run Tryz.prog w=((No #[38,38] #[4] args).run Tryz.prog w).andThen λv w'=> .ok (.value v) w':=λargs w=>run_callFunc_extern Tryz.func163 (by kernel_rfl) (by kernel_rfl) (by kernel_rfl) (e:=No #[38,38] #[4]) (by kernel_rfl) args w
theorem aeQ {g:GT}(h:SG g):SG (bN 108 (pG 72) g):=h.TY (λ_=>rfl) (λms r hr=>by obtain ⟨xs,ys,i,rfl,rfl,h1,h2,h3⟩:=DZ hr;exact MI (P:=Tryz.prog) (c:=cx) (I:=mr 38) (E:=mr 60) aiE oS amO (by kernel_rfl) amQ (IT (by kernel_rfl)) (by kernel_rfl) (by kernel_rfl) (by kernel_rfl) (by kernel_rfl) amR h1 h2 (by rw [show (mr 60).bytes=72 by kernel_rfl];exact h3))
theorem aeR {g:GT}(h:SG g):SG (bN 156 (jD 3 32) g):=h.TY (λ_=>rfl) (λms r hr=>by obtain ⟨xs,rfl,rfl,h1,h2⟩:=rX hr;exact Ao (P:=Tryz.prog) (c:=cx) (f:=156) (fn:=Tryz.f156) (t:=31) (I:=mr 31) (E:=mr 58) (i0:=0) (i1:=1) (i2:=2) (i3:=3) (oA:=iZ Tryz.f156 ja 0) (oB:=iZ Tryz.f156 ja 1) (oC:=iZ Tryz.f156 ja 2) (oD:=iZ Tryz.f156 ja 3) (oE:=iZ Tryz.f156 ja 4) (oF:=iZ Tryz.f156 ja 5) (oG:=iZ Tryz.f156 ja 6) (oH:=iZ Tryz.f156 ja 7) oS amN (by kernel_rfl) amP (IT (by kernel_rfl)) (by kernel_rfl) (by kernel_rfl) Tryz.func156 (by kernel_rfl) (by kernel_rfl) (by kernel_rfl) (by kernel_rfl) ⟨by kernel_rfl,by kernel_rfl,by kernel_rfl⟩ ⟨by kernel_rfl,by kernel_rfl,by kernel_rfl⟩ ⟨by kernel_rfl,by kernel_rfl,by kernel_rfl⟩ ⟨by kernel_rfl,by kernel_rfl,by kernel_rfl⟩ ⟨by kernel_rfl,by kernel_rfl,by kernel_rfl⟩ ⟨by kernel_rfl,by kernel_rfl,by kernel_rfl⟩ ⟨by kernel_rfl,by kernel_rfl,by kernel_rfl⟩ ⟨by kernel_rfl,by kernel_rfl,by kernel_rfl⟩ (by rw [show (mr 58).size=3 by kernel_rfl];exact h1) (by rw [show (mr 58).bytes=32 by kernel_rfl];exact h2))
theorem aiF:MH Tryz.prog 157 31 3 4 58 181 Tryz.f157 (λk=>k) (iZ Tryz.f157 ja) (VH (iZ Tryz.f157 ja)):=by refine ⟨Tryz.func157,by kernel_rfl,by kernel_rfl,by kernel_rfl,by kernel_rfl,?_,wv,by kernel_rfl⟩;constructor<;>first|exact ⟨by kernel_rfl,by kernel_rfl,by kernel_rfl⟩|kernel_rfl
theorem amS: ∀args w,(callFunc 181 args).run Tryz.prog w=((No #[31,31] #[4] args).run Tryz.prog w).andThen λv w'=> .ok (.value v) w':=λargs w=>run_callFunc_extern Tryz.func181 (by kernel_rfl) (by kernel_rfl) (by kernel_rfl) (e:=No #[31,31] #[4]) (by kernel_rfl) args w
theorem aeS {g:GT}(h:SG g):SG (bN 157 (pG 32) g):=h.TY (λ_=>rfl) (λms r hr=>by obtain ⟨xs,ys,i,rfl,rfl,h1,h2,h3⟩:=DZ hr;exact MI (P:=Tryz.prog) (c:=cx) (I:=mr 31) (E:=mr 58) aiF oS amN (by kernel_rfl) amP (IT (by kernel_rfl)) (by kernel_rfl) (by kernel_rfl) (by kernel_rfl) (by kernel_rfl) amS h1 h2 (by rw [show (mr 58).bytes=32 by kernel_rfl];exact h3))
def H59:GT:=bN 59 (jD 6 72) (λ_ _=>none)
theorem abk:SG H59:=aiA (dL.none _ _)
def H69:GT:=bN 69 (jD 1 1) H59
theorem abl:SG H69:=aiB abk
def H70:GT:=bN 70 (jD 1 16) H69
theorem abm:SG H70:=aiC abl
def H74:GT:=bN 74 (jD 18 256) H70
theorem abn:SG H74:=aiD abm
def amT:GT:=bN 108 (pG 72) H74
theorem XG:SG amT:=aeQ abn
def amU:GT:=bN 156 (jD 3 32) amT
theorem XH:SG amU:=aeR XG
def amV:GT:=bN 157 (pG 32) amU
theorem XI:SG amV:=aeS XH
abbrev agF:List LK:=[.k (.i .i64),.k (.i .i64),.k (.l),.k (.l),.own 2000004 40 false,.k (.l)]
def HU:List (Nat×(Nat×List LK)):=(72,(0,agF))::OZ
def VP:Ctx:=⟨uk Gy,kk,λ_ _=>none,gv,frs,Re VN,GK HU,[],0,[],[],λ_=>[],JA MY,DR MZ,λ_=>[],λ_=>default,λ_=>default,λ_=>default,dl,[]⟩
def aiG (g:GT)(par:List (Nat×Nat))(n:Nat)(bs fl:List Nat)(fz ord:List (Nat×List Nat))(zp Bk wM:List (Nat×pv))(dyn:List Nat):Ctx:=⟨uk Gy,kk,g,gv,frs,Re VN,GK HU,par,n,bs,fl,Rc fz,JA MY,DR MZ,Rc ord,Jz zp,Jz Bk,Jz wM,dl,dyn⟩
theorem aiH:xZ Tryz.prog VP:=I5 (l:=MZ) (by kernel_rfl) (λ_ _ h=>h)
theorem abo:sF Tryz.prog VP:=by intro n hn;unfold VP dl bJ at hn;cases hn
theorem abp:GF 72 cx VP:=⟨rfl,rfl,rfl,rfl,rfl,λk hk=>by
 show GK HU k=GK OZ k;unfold HU GK;rw [show sh 72 k=false from by
  cases hb:sh 72 k with
  |false=>rfl
  |true=>exact absurd (AT hb).symm hk]
 rfl⟩
theorem aiI:GF 72 VP cx:=⟨rfl,rfl,rfl,rfl,rfl,λk hk=>(abp.sig k hk).symm⟩
theorem Dx {g:GT}(s:SG g)(dJ:List (List Kd))(par:List (Nat×Nat))(tn:Nat)(bs fl:List Nat)(fz ord:List (Nat×List Nat))(zp Bk wM:List (Nat×pv))(dyn:List Nat){n:Nat}{fn:Func}{F:List MV->Option MV}(hf:Tryz.prog.funcs[n]? =some fn)(hh:Co (O0 g par tn bs fl fz ord zp Bk wM dyn) n fn dJ=true)(hF: ∀{ms r},F ms=some r->Md (O0 g par tn bs fl fz ord zp Bk wM dyn) dJ none fn ms=some r):SG (bN n F g):=s.fn (c':=O0 g par tn bs fl fz ord zp Bk wM dyn) ⟨rfl,rfl,rfl,rfl,rfl,rfl,rfl,rfl,rfl⟩ rfl oS Jv JB M2 wv BJ hf hh (λ_=>rfl) (fresh:=none) rfl hF
theorem sS {g:GT}(s:SG g)(dJ:List (List Kd))(tn:Nat)(zp Bk wM:List (Nat×pv)){n:Nat}{fn:Func}{F:List MV->Option MV}(hf:Tryz.prog.funcs[n]? =some fn)(hh:Co (O0 g [] tn [] [] [] [] zp Bk wM []) n fn dJ=true)(hF: ∀{ms r},F ms=some r->Md (O0 g [] tn [] [] [] [] zp Bk wM []) dJ none fn ms=some r):SG (bN n F g):=Dx s dJ [] tn [] [] [] [] zp Bk wM [] hf hh hF
theorem fnC {g:GT}(s:SG g)(pos:Nat)(ks:List LK)(dJ:List (List Kd))(par:List (Nat×Nat))(tn:Nat)(bs fl:List Nat)(fz ord:List (Nat×List Nat))(zp Bk wM:List (Nat×pv))(dyn:List Nat){n:Nat}{fn:Func}{F:List MV->Option MV}(hf:Tryz.prog.funcs[n]? =some fn)(hs:cx.sig n=some (pos,ks))(hh:MG (O0 g par tn bs fl fz ord zp Bk wM dyn) n fn dJ=true)(hF: ∀{ms r},F ms=some r->zZ (O0 g par tn bs fl fz ord zp Bk wM dyn) dJ pos ks fn ms=some r):SG (bN n F g):=s.fnC oS Jv JB M2 wv BJ hf hs (λ_=>rfl) λh=>⟨O0 g par tn bs fl fz ord zp Bk wM dyn,⟨rfl,rfl,rfl,rfl,rfl,rfl,rfl,rfl,rfl⟩,rfl,hh,hF h⟩
theorem abq {g:GT}(s:dL Tryz.prog VP g)(pos:Nat)(ks:List LK)(dJ:List (List Kd))(par:List (Nat×Nat))(tn:Nat)(bs fl:List Nat)(fz ord:List (Nat×List Nat))(zp Bk wM:List (Nat×pv))(dyn:List Nat){n:Nat}{fn:Func}{F:List MV->Option MV}(hf:Tryz.prog.funcs[n]? =some fn)(hs:VP.sig n=some (pos,ks))(hh:MG (aiG g par tn bs fl fz ord zp Bk wM dyn) n fn dJ=true)(hF: ∀{ms r},F ms=some r->zZ (aiG g par tn bs fl fz ord zp Bk wM dyn) dJ pos ks fn ms=some r):dL Tryz.prog VP (bN n F g):=s.fnC oS Jv JB aiH wv abo hf hs (λ_=>rfl) λh=>⟨aiG g par tn bs fl fz ord zp Bk wM dyn,⟨rfl,rfl,rfl,rfl,rfl,rfl,rfl,rfl,rfl⟩,rfl,hh,hF h⟩
theorem fnF {g:GT}(s:SG g)(ty:Nat)(dJ:List (List Kd))(par:List (Nat×Nat))(tn:Nat)(bs fl:List Nat)(fz ord:List (Nat×List Nat))(zp Bk wM:List (Nat×pv))(dyn:List Nat){n:Nat}{fn:Func}{F:List MV->Option MV}(hf:Tryz.prog.funcs[n]? =some fn)(hh:Co (O0 g par tn bs fl fz ord zp Bk wM dyn) n fn dJ=true)(Fi:C1 (O0 g par tn bs fl fz ord zp Bk wM dyn) n fn (some ty)=true)(hF: ∀{ms r},F ms=some r->Md (O0 g par tn bs fl fz ord zp Bk wM dyn) dJ (some ty) fn ms=some r):SG (bN n F g):=s.fn (c':=O0 g par tn bs fl fz ord zp Bk wM dyn) ⟨rfl,rfl,rfl,rfl,rfl,rfl,rfl,rfl,rfl⟩ rfl oS Jv JB M2 wv BJ hf hh (λ_=>rfl) Fi hF
theorem fnX {g:GT}(s:SG g)(dJ:List (List Kd))(par:List (Nat×Nat))(tn:Nat)(bs fl:List Nat)(fz ord:List (Nat×List Nat))(zp Bk wM:List (Nat×pv))(dyn:List Nat){n:Nat}{fn:Func}{F:List MV->Option MV}(hf:Tryz.prog.funcs[n]? =some fn)(hh:Co (O0 g par tn bs fl fz ord zp Bk wM dyn) n fn dJ=true)(hF: ∀{ms r},F ms=some r->QX (O0 g par tn bs fl fz ord zp Bk wM dyn) dJ none fn ms=some r):SG (bN n F g):=s.fnX (c':=O0 g par tn bs fl fz ord zp Bk wM dyn) ⟨rfl,rfl,rfl,rfl,rfl,rfl,rfl,rfl,rfl⟩ rfl oS Jv JB M2 wv BJ hf hh (λ_=>rfl) (fresh:=none) rfl hF
abbrev cl1 (d:List MV->Option MV):List MV->Option MV:=λms=>match ms with|[.cell (.func off a0)]=>(match sh off 0 with|true=>d a0|false=>none)|_=>none
theorem T7 {d:List MV->Option MV}{B:List MV->Option MV}(h: ∀a0,B [.cell (.func 0 a0)]=d a0){ms:List MV}{r:MV}(e:cl1 d ms=some r):B ms=some r:=by
 unfold cl1 at e;split at e
 ·rename_i off a0;cases ho:sh off 0 with
  |true=>have:=AT ho;subst this;exact (h _).trans e
  |false=>rw [ho] at e;cases e
 ·cases e
abbrev cl2 (d:List MV->MV->Option MV):List MV->Option MV:=λms=>match ms with|[.cell (.func off a0),a1]=>(match sh off 0 with|true=>d a0 a1|false=>none)|_=>none
theorem T8 {d:List MV->MV->Option MV}{B:List MV->Option MV}(h: ∀a0 a1,B [.cell (.func 0 a0),a1]=d a0 a1){ms:List MV}{r:MV}(e:cl2 d ms=some r):B ms=some r:=by
 unfold cl2 at e;split at e
 ·rename_i off a0 a1;cases ho:sh off 0 with
  |true=>have:=AT ho;subst this;exact (h _ _).trans e
  |false=>rw [ho] at e;cases e
 ·cases e
abbrev cl3 (d:List MV->MV->MV->Option MV):List MV->Option MV:=λms=>match ms with|[.cell (.func off a0),a1,a2]=>(match sh off 0 with|true=>d a0 a1 a2|false=>none)|_=>none
theorem abr {d:List MV->MV->MV->Option MV}{B:List MV->Option MV}(h: ∀a0 a1 a2,B [.cell (.func 0 a0),a1,a2]=d a0 a1 a2){ms:List MV}{r:MV}(e:cl3 d ms=some r):B ms=some r:=by
 unfold cl3 at e;split at e
 ·rename_i off a0 a1 a2;cases ho:sh off 0 with
  |true=>have:=AT ho;subst this;exact (h _ _ _).trans e
  |false=>rw [ho] at e;cases e
 ·cases e
abbrev cl4 (d:List MV->MV->MV->MV->Option MV):List MV->Option MV:=λms=>match ms with|[.cell (.func off a0),a1,a2,a3]=>(match sh off 0 with|true=>d a0 a1 a2 a3|false=>none)|_=>none
theorem abt {d:List MV->MV->MV->MV->Option MV}{B:List MV->Option MV}(h: ∀a0 a1 a2 a3,B [.cell (.func 0 a0),a1,a2,a3]=d a0 a1 a2 a3){ms:List MV}{r:MV}(e:cl4 d ms=some r):B ms=some r:=by
 unfold cl4 at e;split at e
 ·rename_i off a0 a1 a2 a3;cases ho:sh off 0 with
  |true=>have:=AT ho;subst this;exact (h _ _ _ _).trans e
  |false=>rw [ho] at e;cases e
 ·cases e
def BK (a a1:MV):Option MV:=gA a λcs=>
 gC cs λm zu=>
 gI .i64 m λSF=>
 gC zu λm1 wz=>
 gI .i64 m1 λST=>
 gC wz λm2 pR=>
 gL m2 λbY=>
 gC pR λm3 C6=>
 gL m3 λWant=>
 gN C6<|
 gL a1 λmu=>
 bd (
 bH (decide ((2:Int)<SF)) (
 some [.b true]) (
 cy bY λlen=>
 bH (decide ((30:Int)<(len:Int))) (
 some [.b true]) (
 cy Want λgK=>
 bH (decide ((30:Int)<(gK:Int))) (
 some [.b true]) (
 cy mu λr9=>
 some [.b (decide ((80:Int)<(r9:Int)))])))) λvs=>
 gC vs λm4 C7=>
 gB m4 λx=>
 gN C7<|
 bH x (
 some (.b false)) (
 bd (Loop (λFG=>
 gC FG λm5 JC=>
 gI .i64 m5 λx1=>
 gN JC<|
 cy Want λC8=>
 bH (decide (x1<(C8:Int))) (
 idx Want x1 λy=>
 gS y λx2=>
 bH (decide ((200:Int)<(x2.length:Int))) (
 some (.inr (1,[.b false]))) (
 some (.inl [.i .i64 (cV .i64 (x1+1))]))) (
 some (.inr (2,[])))) [.i .i64 0]) λp=>
 bH (sh p.1 2) (
 gN p.2<|
 bd (Loop (λC9=>
 gC C9 λm6 Az=>
 gI .i64 m6 λx3=>
 gN Az<|
 cy mu λJD=>
 bH (decide (x3<(JD:Int))) (
 idx mu x3 λy1=>
 gA y1 λhU=>
 nP hU λKind I J Rf Rg Rh FH GM Ea xj qX FI abu Ri Rj JE BL BM=>
 bd (
 bH (decide ((200:Int)<(FH.length:Int))) (
 some [.b true]) (
 bH (decide ((200:Int)<(qX.length:Int))) (
 some [.b true]) (
 cy FI λFJ=>
 bH (decide ((30:Int)<(FJ:Int))) (
 some [.b true]) (
 cy GM λXJ=>
 bH (decide ((30:Int)<(XJ:Int))) (
 some [.b true]) (
 bH (decide ((200:Int)<(BL.length:Int))) (
 some [.b true]) (
 cy BM λarl=>
 some [.b (decide ((30:Int)<(arl:Int)))])))))) λlK=>
 gC lK λm25 Rk=>
 gB m25 λx4=>
 gN Rk<|
 bH x4 (
 some (.inr (1,[.b false]))) (
 bd (Loop (λJF=>
 gC JF λm26 Rl=>
 gI .i64 m26 λx5=>
 gN Rl<|
 cy GM λRm=>
 bH (decide (x5<(Rm:Int))) (
 idx GM x5 λy2=>
 gA y2 λqw=>
 iu qw λBy fS Has View Value Proof=>
 cy Proof λarn=>
 bH (decide ((30:Int)<(arn:Int))) (
 some (.inr (1,[.b false]))) (
 some (.inl [.i .i64 (cV .i64 (x5+1))]))) (
 some (.inr (6,[])))) [.i .i64 0]) λp4=>
 bH (sh p4.1 6) (
 gN p4.2<|
 some (.inl [.i .i64 (cV .i64 (x3+1))])) (
 du (sh p4.1 1)<|
 gC p4.2 λm33 abv=>
 gB m33 λx6=>
 gN abv<|
 some (.inr (1,[.b x6]))))) (
 some (.inr (4,[])))) [.i .i64 0]) λp3=>
 bH (sh p3.1 4) (
 gN p3.2<|
 some (.b true)) (
 du (sh p3.1 1)<|
 gC p3.2 λm34 abw=>
 gB m34 λx7=>
 gN abw<|
 some (.b x7))) (
 du (sh p.1 1)<|
 gC p.2 λm35 amY=>
 gB m35 λx8=>
 gN amY<|
 some (.b x8)))
def M3:GT:=bN 8 (jN BK) amV
theorem LA:SG M3:=sS XI [] 107 [(12,⟨[1,6,7],[],[],[(0,[(91,.sc (.k .b))])],[]⟩),(1,⟨[1,2],[],[],[(0,[(29,.sc (.k .b))])],[]⟩)] [] [(15,⟨[1,6,7],[],[(8,.sc (.k (.i .i64)))],[(1,[(4,.sc (.k .b))]),(6,[])],[]⟩),(9,⟨[1],[],[(6,.sc (.k (.i .i64)))],[(1,[(4,.sc (.k .b))]),(4,[])],[]⟩),(4,⟨[1,2],[],[(5,.sc (.k (.i .i64)))],[(1,[(4,.sc (.k .b))]),(2,[])],[]⟩)] Tryz.func8 (by kernel_rfl) (cf (λ_ _=>by kernel_rfl))
def ru (sA:MV):Option MV:=gA sA λcs=>
 Dw cs λF T=>
 some (.raw (.complex .f64 (aaP .f64 F) (aaP .f64 T)))
def Cq:GT:=bN 139 (qS ru) M3
theorem Eb:SG Cq:=sS LA [] 10 [] [] [] Tryz.func139 (by kernel_rfl) (eP (λ_=>by kernel_rfl))
def jT (sA times:MV):Option MV:=gA sA λcs=>
 Dw cs λF T=>
 gR times λabx=>
 bd (ru (.agg [.i .i64 F,.i .i64 T])) λrA=>
 gR rA λx=>
 gCx x λre im=>
 gCx abx λre1 im1=>
 bd (FloatKind.f64.format.mul re re1) λf=>
 gCx x λre2 im2=>
 gCx abx λre3 im3=>
 bd (FloatKind.f64.format.mul im2 im3) λf1=>
 bd (FloatKind.f64.format.add f f1) λf2=>
 bd ((FloatKind.decode .f64 f2).toInt .zero) λn=>
 du (decide (IntKind.min .i64<=n/\n<=IntKind.max .i64))<|
 some (.i .i64 (cV .i64 (n+1)))
def GN:GT:=bN 71 (jN jT) Cq
theorem Ht:SG GN:=sS Eb [] 21 [] [] [] Tryz.func71 (by kernel_rfl) (cf (λ_ _=>by kernel_rfl))
def sH (sA:MV):Option MV:=gA sA λcs=>
 Dw cs λF T=>
 bd (jT (.agg [.i .i64 F,.i .i64 T]) (.raw (.complex .f64 4613937818241073152 4611686018427387904))) λrA=>
 gI .i64 rA λx=>
 some (.i .i64 x)
def aby:GT:=bN 27 (qS sH) GN
theorem T9:SG aby:=sS Ht [] 5 [] [] [] Tryz.func27 (by kernel_rfl) (eP (λ_=>by kernel_rfl))
def ll (sA:MV):Option MV:=gA sA λcs=>
 Dw cs λF T=>
 bd (
 bH (decide ((1:Int)<=F)) (
 bH (decide (F<=5)) (
 bH (decide ((0:Int)<=T)) (
 some [.b (decide (T<=F))]) (
 some [.b false])) (
 some [.b false])) (
 some [.b false])) λvs=>
 gC vs λm2 pR=>
 gB m2 λx=>
 gN pR<|
 some (.b x)
def JG:GT:=bN 68 (qS ll) aby
theorem JH:SG JG:=sS T9 [] 23 [(1,⟨[1],[],[],[(0,[(2,.sc (.k .b))])],[]⟩)] [] [] Tryz.func68 (by kernel_rfl) (eP (λ_=>by kernel_rfl))
def pS (sA me:MV):Option MV:=gA sA λcs=>
 Dw cs λF T=>
 gI .i64 me λme1=>
 bd (
 bd (ll (.agg [.i .i64 F,.i .i64 T])) λrA=>
 gB rA λx=>
 bH (!x) (
 some [.b true]) (
 bH (decide (me1<0)) (
 some [.b true]) (
 bd (sH (.agg [.i .i64 F,.i .i64 T])) λbu=>
 gI .i64 bu λx1=>
 some [.b (decide (x1<=me1))]))) λvs=>
 gC vs λm2 pR=>
 gB m2 λx2=>
 gN pR<|
 bH x2 (
 some (.eu [.agg (df 0 0 0 0 false 0 ([]:List UInt8) ([]:List MV) ([]:List MV)),.i .i64 1])) (
 some (.eu [.agg (df F T me1 0 false 0 ([]:List UInt8) ([]:List MV) ([]:List MV)),.i .i64 0]))
def Ec:GT:=bN 35 (jN pS) JG
theorem FK:SG Ec:=sS JH [] 23 [(1,⟨[1,2,4],[],[],[(0,[(18,.sc (.k .b))])],[]⟩)] [] [] Tryz.func35 (by kernel_rfl) (cf (λ_ _=>by kernel_rfl))
def sa (sA:MV):Option MV:=gA sA λcs=>
 Dw cs λF T=>
 bd (ll (.agg [.i .i64 F,.i .i64 T])) λrA=>
 gB rA λx=>
 bH (!x) (
 some (.eu [.agg (cY 0 0 ([]:List MV) ([]:List MV) ([]:List MV) false ([]:List UInt8)),.i .i64 1])) (
 some (.eu [.agg (cY F T ([]:List MV) ([]:List MV) ([]:List MV) false ([]:List UInt8)),.i .i64 0]))
def GO:GT:=bN 36 (qS sa) Ec
theorem Hu:SG GO:=sS FK [] 10 [] [] [] Tryz.func36 (by kernel_rfl) (eP (λ_=>by kernel_rfl))
def yu (sA i:MV):Option MV:=gA sA λcs=>
 Dw cs λF T=>
 gI .i64 i λi1=>
 bd (pS (.agg [.i .i64 F,.i .i64 T]) (.i .i64 i1)) λrA=>
 gT rA λvs=>
 gC vs λm2 pR=>
 gA m2 λhU=>
 iz hU λSF ST Me View Has At Value Proof jg=>
 gC pR λFE mS=>
 gI .i64 FE λx=>
 gN mS<|
 bH (!decide (x=0)) (
 some (.eu [.agg (aw 0 0 0 0 false 0 ([]:List UInt8) ([]:List MV) ([]:List MV) 0 0 ([]:List MV) ([]:List MV) ([]:List MV) false ([]:List UInt8) ([]:List MV) 0),.i .i64 x])) (
 bd (sa (.agg [.i .i64 F,.i .i64 T])) λbu=>
 gT bu λlK=>
 gC lK λOW xk=>
 gA OW λqw=>
 ik qw λzw zx gp gq qF bw bX=>
 gC xk λm21 Ed=>
 gI .i64 m21 λx1=>
 gN Ed<|
 some (.eu [.agg (aw SF ST Me View Has At Value Proof jg zw zx gp gq qF bw bX ([]:List MV) (-1)),.i .i64 x1]))
def JI:GT:=bN 10 (jN yu) GO
theorem JJ:SG JI:=sS Hu [] 28 [] [] [] Tryz.func10 (by kernel_rfl) (cf (λ_ _=>by kernel_rfl))
def AA (a a1 a2:MV):Option MV:=gA a λcs=>
 Dw cs λF T=>
 gL a1 λmu=>
 gL a2 λabA=>
 bd (
 bd (ll (.agg [.i .i64 F,.i .i64 T])) λrA=>
 gB rA λx=>
 bH (!x) (
 some [.b true]) (
 cy mu λlen=>
 bd (sH (.agg [.i .i64 F,.i .i64 T])) λbu=>
 gI .i64 bu λx1=>
 bH (!decide ((len:Int)=x1)) (
 some [.b true]) (
 cy abA λgK=>
 cy mu λr9=>
 some [.b (!decide ((gK:Int)=(r9:Int)))]))) λvs=>
 gC vs λm2 pR=>
 gB m2 λx2=>
 gN pR<|
 bH x2 (
 some (.eu [.agg (bk 0 0 ([]:List MV) ([]:List MV) ([]:List MV) ([]:List MV)),.i .i64 1])) (
 bd (jD 1 1 [.list mu]) λcg=>
 gF cg λxs=>
 bd (jD 1 16 [.list abA]) λcM=>
 gF cM λLB=>
 cy mu λC8=>
 bd (Loop (λC6=>
 gC C6 λm3 C7=>
 gI .i64 m3 λx3=>
 gC C7 λm4 FG=>
 gI .i64 m4 λx4=>
 gC FG λm5 JC=>
 gL m5 λx5=>
 gC JC λm6 C9=>
 gL m6 λx6=>
 gC C9 λm7 Az=>
 gL m7 λx7=>
 gC Az λm8 uy=>
 gL m8 λx8=>
 gC uy λm9 xl=>
 gI .i64 m9 λx9=>
 gC xl λOV xm=>
 gI .i64 OV λqE=>
 gC xm λLy mS=>
 gL Ly λRn=>
 gC mS λFE xk=>
 gL FE λVQ=>
 gC xk λOW AB=>
 gL OW λxs4=>
 gC AB λLz xn=>
 gL Lz λsB=>
 Dw xn λsQ sG=>
 bH (decide (sG<(C8:Int))) (
 idx mu sG λy=>
 gB y λuY=>
 bd (
 bH uY (
 some (0,[.i .i64 (cV .i64 (sQ-1))])) (
 some (0,[.i .i64 sQ]))) λp1=>
 du (sh p1.1 0)<|
 gC p1.2 λFF n8=>
 gI .i64 FF λyt=>
 gN n8<|
 bd (
 idx abA sG λy1=>
 gS y1 λBI=>
 bH (decide ((6000:Int)<(BI.length:Int))) (
 some [.b true]) (
 some [.b (decide (yt<0))])) λlK=>
 gC lK λOX uA=>
 gB OX λxi=>
 gN uA<|
 bH xi (
 some (.inr (1,(pQ 0 0 ([]:List MV) ([]:List MV) ([]:List MV) ([]:List MV) 1)))) (
 bd (yu (.agg [.i .i64 F,.i .i64 T]) (.i .i64 sG)) λiR=>
 gT iR λuj=>
 gC uj λm19 uB=>
 gA m19 λhU=>
 ba hU λAD AE AF eI mT AG ei ej cZ AH AJ bQ bR ek fV eo dq et=>
 gC uB λm38 Ro=>
 gI .i64 m38 λLd=>
 gN Ro<|
 cy xs4 λJD=>
 cy ([.agg (aw AD AE AF eI mT AG ei ej cZ AH AJ bQ bR ek fV eo dq et)]:List MV) λFJ=>
 du (decide ((JD+FJ) *256<=2^46))<|
 some (.inl [.i .i64 x3,.i .i64 x4,.list x5,.list x6,.list x7,.list x8,.i .i64 x9,.i .i64 qE,.list Rn,.list VQ,.list (xs4++([.agg (aw AD AE AF eI mT AG ei ej cZ AH AJ bQ bR ek fV eo dq et)]:List MV)),.list sB,.i .i64 yt,.i .i64 (cV .i64 (sG+1))]))) (
 some (.inr (2,[.i .i64 x3,.i .i64 x4,.list x5,.list x6,.list x7,.list x8,.i .i64 x9,.i .i64 qE,.list Rn,.list VQ,.list xs4,.list sB])))) [.i .i64 0,.i .i64 0,.list ([]:List MV),.list ([]:List MV),.list ([]:List MV),.list ([]:List MV),.i .i64 F,.i .i64 T,.list xs,.list LB,.list ([]:List MV),.list ([]:List MV),.i .i64 F,.i .i64 0]) λp=>
 bH (sh p.1 2) (
 gC p.2 λm39 am0=>
 gI .i64 m39 λUa=>
 gC am0 λm40 am1=>
 gI .i64 m40 λXK=>
 gC am1 λm41 am2=>
 gL m41 λYL=>
 gC am2 λm42 Rq=>
 gL m42 λVR=>
 gC Rq λm43 am4=>
 gL m43 λx23=>
 gC am4 λm44 abD=>
 gL m44 λx24=>
 dj abD λx25 x26 xs5 xs6 xs7 x27=>
 some (.eu [.agg (bk x25 x26 xs5 xs6 xs7 x27),.i .i64 0])) (
 du (sh p.1 1)<|
 Jx .i64 .i64 .i64 p.2 λx28 x29 x30 x31 x32 x33 x34=>
 some (.eu [.agg (bk x28 x29 x30 x31 x32 x33),.i .i64 x34])))
def Rr:GT:=bN 26 (D7 AA) JI
theorem O1:SG Rr:=Dx JJ [] [] 75 [70] [] [] [(3,[0,1,3,2,4,5,6,7])] [(10,⟨[1,2,3,6,8,9,10,40,41],[33,35,71],[],[(0,[(59,.sc (.k .b))])],[33,35,71]⟩),(1,⟨[1,2,3,6],[],[],[(0,[(29,.sc (.k .b))])],[33,35,71]⟩)] [(9,⟨[1,2,3,6,8,10,40,41],[33,35,71],[],[(0,[(9,.sc (.k (.i .i64)))])],[33,35,71]⟩)] [(6,⟨[1,2,3,40],[],[(6,.box [.k (.i .i64),.k (.i .i64),.k .l,.k .l,.k .l,.k .l]),(8,.box [.k (.i .i64),.k (.i .i64),.own 33 4 true,.own 35 9 true,.own 71 40 true,.k .l]),(9,.sc (.k (.i .i64))),(41,.sc (.k (.i .i64)))],[(1,[(6,.box [.k (.i .i64),.k (.i .i64),.k .l,.k .l,.k .l,.k .l]),(7,.sc (.k (.i .i64)))]),(2,[(6,.box [.k (.i .i64),.k (.i .i64),.k .l,.k .l,.k .l,.k .l]),(8,.box [.k (.i .i64),.k (.i .i64),.own 33 4 true,.own 35 9 true,.own 71 40 true,.k .l])])],[33,35,71]⟩)] [] Tryz.func26 (by kernel_rfl) (ot (λ_ _ _=>by kernel_rfl))
def uC (b:MV):Option MV:=gL b λb1=>
 cy b1 λlen=>
 bH (decide ((len:Int)=0)) (
 some (.eu [.i .u64 0,.list ([]:List MV),.i .i64 2])) (
 idx b1 0 λy=>
 gI .u8 y λx=>
 du (pu 1 b1)<|
 cy b1 λgK=>
 du (decide ((0:Int)<=1/\(1:Int)<=(gK:Int)/\(gK:Int)<=(gK:Int)))<|
 bd (
 bH (decide ((8:Int)<(cV .i64 x))) (
 some [.b true]) (
 bH (decide ((0:Int)<(cV .i64 x))) (
 cy (OF (AI 1) (aau (AI (gK:Int)) b1)) λr9=>
 bH (decide ((0:Int)<(r9:Int))) (
 idx (OF (AI 1) (aau (AI (gK:Int)) b1)) 0 λy1=>
 gI .u8 y1 λx1=>
 some [.b (decide (x1=0))]) (
 some [.b false])) (
 some [.b false]))) λvs=>
 gC vs λm zu=>
 gB m λx2=>
 gN zu<|
 bH x2 (
 some (.eu [.i .u64 0,.list ([]:List MV),.i .i64 3])) (
 cy (OF (AI 1) (aau (AI (gK:Int)) b1)) λC8=>
 bH (decide ((C8:Int)<(cV .i64 x))) (
 some (.eu [.i .u64 0,.list ([]:List MV),.i .i64 2])) (
 cy (OF (AI 1) (aau (AI (gK:Int)) b1)) λJD=>
 du (decide ((0:Int)<=0/\(0:Int)<=(cV .i64 x)/\(cV .i64 x)<=(JD:Int)))<|
 cy (OF (AI 0) (aau (AI (cV .i64 x)) (OF (AI 1) (aau (AI (gK:Int)) b1)))) λFJ=>
 bd (Loop (λwz=>
 oII .u64 .i64 wz λn x3=>
 bH (decide (x3<(FJ:Int))) (
 idx (OF (AI 0) (aau (AI (cV .i64 x)) (OF (AI 1) (aau (AI (gK:Int)) b1)))) x3 λy2=>
 gI .u8 y2 λx4=>
 du (decide ((0:Int)<=8))<|
 some (.inl [.i .u64 (bOr .u64 (cV .u64 (n *2^min (AI 8) (BY .u64))) (cV .u64 x4)),.i .i64 (cV .i64 (x3+1))])) (
 some (.inr (3,[.i .u64 n])))) [.i .u64 0,.i .i64 0]) λp=>
 du (sh p.1 3)<|
 gC p.2 λm3 C7=>
 gI .u64 m3 λn1=>
 gN C7<|
 du (pu 1 (OF (AI 1) (aau (AI (gK:Int)) b1)))<|
 cy (OF (AI 1) (aau (AI (gK:Int)) b1)) λXJ=>
 du (decide ((0:Int)<=(cV .i64 x)/\(cV .i64 x)<=(XJ:Int)/\(XJ:Int)<=(XJ:Int)))<|
 some (.eu [.i .u64 n1,.list (OF (AI (cV .i64 x)) (aau (AI (XJ:Int)) (OF (AI 1) (aau (AI (gK:Int)) b1)))),.i .i64 0]))))
def JK:GT:=bN 185 (qS uC) Rr
theorem JL:SG JK:=Dx O1 [] [] 60 [] [] [] [(3,[0,1,2,3,4,5,6,7]),(14,[0,1,2,3,4,5,6])] [(4,⟨[5,6],[],[],[(0,[(19,.sc (.k .b))])],[]⟩)] [] [(10,⟨[5,6,44,45],[],[(7,.sc (.k (.i .u64))),(46,.sc (.k (.i .i64)))],[(3,[(7,.sc (.k (.i .u64)))])],[]⟩)] [] Tryz.func185 (by kernel_rfl) (eP (λ_=>by kernel_rfl))
def rv (b:MV):Option MV:=gL b λb1=>
 bd (uC (.list b1)) λrA=>
 gT rA λvs=>
 gC vs λm zu=>
 gI .u64 m λx=>
 GJ zu λx1 x2=>
 du (decide ((0:Int)<=1))<|
 some (.eu [.i .i64 (E8 .i64 (cV .i64 (aaJ x (2^min (AI 1) (BY .u64)))) (cV .i64 (0-(cV .i64 (SA .u64 x 1))))),.list x1,.i .i64 x2])
def Cr:GT:=bN 168 (qS rv) JK
theorem Ee:SG Cr:=sS JL [] 24 [] [] [] Tryz.func168 (by kernel_rfl) (eP (λ_=>by kernel_rfl))
def dK (t:List MV):Option MV:=GJ t λb eA=>
 bd (
 bH (decide (eA=0)) (
 bd (rv (.list b)) λrA=>
 gT rA λvs=>
 gC vs λm2 pR=>
 gI .i64 m2 λx=>
 GJ pR λx1 x2=>
 some (0,[.i .i64 x,.list x1,.i .i64 x2])) (
 some (0,[.i .i64 0,.list b,.i .i64 eA]))) λp=>
 du (sh p.1 0)<|
 gC p.2 λm5 FG=>
 gI .i64 m5 λn=>
 GJ FG λx3 x4=>
 some (.ew (.i .i64 n) [.list x3,.i .i64 x4])
def uD:GT:=bN 126 (cl1 dK) Cr
theorem yv:SG uD:=fnC Ee 0 M1 [] [(0,1000000)] 24 [] [] [] [] [] [(2,⟨[0],[],[],[(0,[(2,.sc (.k (.i .i64))),(1000000,.box [.k .l,.k (.i .i64)])])],[]⟩)] [] [] Tryz.func126 (by kernel_rfl) (by kernel_rfl) (T7 λ_=>by kernel_rfl)
def pT (b most:MV):Option MV:=gL b λb1=>
 gI .i64 most λam7=>
 bd (uC (.list b1)) λrA=>
 gT rA λvs=>
 gC vs λm zu=>
 gI .u64 m λx=>
 GJ zu λx1 x2=>
 bH (!decide (x2=0)) (
 some (.eu [.s ([]:List UInt8),.list ([]:List MV),.i .i64 x2])) (
 bH (decide ((cV .u64 (imax am7 0))<x)) (
 some (.eu [.s ([]:List UInt8),.list ([]:List MV),.i .i64 5])) (
 cy x1 λlen=>
 bH (decide ((cV .u64 (len:Int))<x)) (
 some (.eu [.s ([]:List UInt8),.list ([]:List MV),.i .i64 2])) (
 cy x1 λgK=>
 du (decide ((0:Int)<=0/\(0:Int)<=x/\x<=(gK:Int)))<|
 NK (OF (AI 0) (aau (AI x) x1)) λbs=>
 du (pu 1 x1)<|
 cy x1 λr9=>
 du (decide ((0:Int)<=x/\x<=(r9:Int)/\(r9:Int)<=(r9:Int)))<|
 some (.eu [.s bs,.list (OF (AI x) (aau (AI (r9:Int)) x1)),.i .i64 0]))))
def AK:GT:=bN 169 (jN pT) uD
theorem Da:SG AK:=Dx yv [] [] 39 [] [] [] [(8,[0,1,2,3,4,5,6,7,8,9])] [] [] [] [] Tryz.func169 (by kernel_rfl) (cf (λ_ _=>by kernel_rfl))
def iA (t:List MV):Option MV:=GJ t λb eA=>
 bd (
 bH (decide (eA=0)) (
 bd (pT (.list b) (.i .i64 6000)) λrA=>
 gT rA λvs=>
 gC vs λm2 pR=>
 gS m2 λx=>
 GJ pR λx1 x2=>
 some (0,[.s x,.list x1,.i .i64 x2])) (
 some (0,[.s ([]:List UInt8),.list b,.i .i64 eA]))) λp=>
 du (sh p.1 0)<|
 gC p.2 λm5 FG=>
 gS m5 λsA=>
 GJ FG λx3 x4=>
 some (.ew (.s sA) [.list x3,.i .i64 x4])
def sU:GT:=bN 127 (cl1 iA) AK
theorem xp:SG sU:=fnC Da 0 M1 [] [(0,1000000)] 24 [] [] [] [] [] [(2,⟨[0],[],[],[(0,[(2,.sc (.k .s)),(1000000,.box [.k .l,.k (.i .i64)])])],[]⟩)] [] [] Tryz.func127 (by kernel_rfl) (by kernel_rfl) (T7 λ_=>by kernel_rfl)
def jU (t:List MV):Option MV:=GJ t λb eA=>
 bd (dK [.list b,.i .i64 eA]) λrA=>
 gW rA λx ls=>
 GJ ls λb1 eA1=>
 gI .i64 x λx1=>
 bd (
 bH (decide (x1<0)) (
 some [.b true]) (
 some [.b (decide ((100:Int)<x1))])) λvs=>
 gC vs λm4 C7=>
 gB m4 λx2=>
 gN C7<|
 bd (
 bH x2 (
 some (0,[.list b1,.i .i64 3])) (
 some (0,[.list b1,.i .i64 eA1]))) λp=>
 du (sh p.1 0)<|
 oLI .i64 p.2 λx3 x4=>
 bd (
 bH (!decide (x4=0)) (
 some [.b true]) (
 some [.b (decide (x1=0))])) λlK=>
 gC lK λm7 C9=>
 gB m7 λx5=>
 gN C9<|
 bH x5 (
 some (.ew (.list ([]:List MV)) [.list x3,.i .i64 x4])) (
 du (decide ((0:Int)<=x1/\x1=x1/\x1 *32<=2^46))<|
 cy (aaK (AI x1) (.agg [.i .i64 0,.i .i64 0,.s ([]:List UInt8)])) λlen=>
 bd (Loop (λAz=>
 gC Az λm8 uy=>
 gL m8 λp2=>
 gC uy λm9 xl=>
 gI .i64 m9 λx6=>
 GJ xl λx7 x8=>
 bH (decide (x6<(len:Int))) (
 bd (dK [.list x7,.i .i64 x8]) λbu=>
 gW bu λx9 ls1=>
 GJ ls1 λb2 eA2=>
 gI .i64 x9 λqE=>
 idx p2 x6 λy=>
 gA y λcs=>
 mq cs λBy View Value=>
 some (.inl [.list (p2.set (AI x6) (.agg [.i .i64 qE,.i .i64 View,.s Value])),.i .i64 (cV .i64 (x6+1)),.list b2,.i .i64 eA2])) (
 some (.inr (2,[.list p2,.list x7,.i .i64 x8])))) [.list (aaK (AI x1) (.agg [.i .i64 0,.i .i64 0,.s ([]:List UInt8)])),.i .i64 0,.list x3,.i .i64 x4]) λp1=>
 du (sh p1.1 2)<|
 gC p1.2 λFF n8=>
 gL FF λp3=>
 GJ n8 λsB sQ=>
 bd (dK [.list sB,.i .i64 sQ]) λcg=>
 gW cg λsG ls2=>
 GJ ls2 λb3 eA3=>
 gI .i64 sG λuY=>
 bd (iA [.list b3,.i .i64 eA3]) λcM=>
 gW cM λyt ls3=>
 GJ ls3 λb4 eA4=>
 gS yt λBI=>
 cy p3 λgK=>
 bd (Loop (λabH=>
 GJ abH λp5 xi=>
 bH (decide (xi<(gK:Int))) (
 idx p5 xi λy1=>
 gA y1 λhU=>
 mq hU λO2 fO bX=>
 idx (p5.set (AI xi) (.agg [.i .i64 O2,.i .i64 uY,.s bX])) xi λy2=>
 gA y2 λqw=>
 mq qw λBy2 GP kh=>
 some (.inl [.list ((p5.set (AI xi) (.agg [.i .i64 O2,.i .i64 uY,.s bX])).set (AI xi) (.agg [.i .i64 By2,.i .i64 GP,.s BI])),.i .i64 (cV .i64 (xi+1))])) (
 some (.inr (4,[.list p5])))) [.list p3,.i .i64 0]) λp4=>
 du (sh p4.1 4)<|
 gC p4.2 λm32 abI=>
 gL m32 λp6=>
 gN abI<|
 some (.ew (.list p6) [.list b4,.i .i64 eA4]))
def sb:GT:=bN 128 (cl1 jU) sU
theorem wA:SG sb:=fnC xp 0 M1 [] [(0,1000000)] 64 [] [] [] [] [(4,⟨[0,3,1000000],[],[],[(0,[(28,.sc (.k .b))])],[]⟩),(2,⟨[0,3,1000000],[],[],[(0,[(16,.sc (.k .b))])],[]⟩)] [(3,⟨[0,3],[],[],[(0,[(1000000,.box [.k .l,.k (.i .i64)])])],[]⟩)] [(14,⟨[6,7,48,1000000],[],[(4,.sc (.own 30 58 false)),(49,.sc (.k (.i .i64)))],[(4,[(4,.sc (.own 30 58 false))])],[]⟩),(8,⟨[0,32],[],[(4,.sc (.own 30 58 false)),(33,.sc (.k (.i .i64))),(1000000,.box [.k .l,.k (.i .i64)])],[(2,[(4,.sc (.own 30 58 false)),(1000000,.box [.k .l,.k (.i .i64)])])],[]⟩)] [] Tryz.func128 (by kernel_rfl) (by kernel_rfl) (T7 λ_=>by kernel_rfl)
def n9 (isA:MV):Option MV:=gB isA λarx=>
 bH arx (
 some (.i .i64 1)) (
 some (.i .i64 0))
def Cs:GT:=bN 129 (qS n9) sb
theorem Ef:SG Cs:=sS wA [] 4 [] [] [] Tryz.func129 (by kernel_rfl) (eP (λ_=>by kernel_rfl))
def oT (sA:MV):Option MV:=gA sA λcs=>
 Dw cs λF T=>
 bd (jT (.agg [.i .i64 F,.i .i64 T]) (.raw (.complex .f64 4611686018427387904 4607182418800017408))) λrA=>
 gI .i64 rA λx=>
 some (.i .i64 x)
def JM:GT:=bN 103 (qS oT) Cs
theorem JN:SG JM:=sS Ef [] 5 [] [] [] Tryz.func103 (by kernel_rfl) (eP (λ_=>by kernel_rfl))
def nz (a:MV):Option MV:=gA a λcs=>
 mq cs λBy View Value=>
 bd (
 bH (decide ((0:Int)<=By)) (
 bH (decide ((0:Int)<=View)) (
 bH (decide (View<=100000)) (
 some [.b (decide ((Value.length:Int)<=6000))]) (
 some [.b false])) (
 some [.b false])) (
 some [.b false])) λvs=>
 gC vs λm3 C6=>
 gB m3 λx=>
 gN C6<|
 some (.b x)
def M4:GT:=bN 100 (qS nz) JM
theorem LC:SG M4:=sS JN [] 22 [(1,⟨[1],[],[],[(0,[(2,.sc (.k .b))])],[]⟩)] [] [] Tryz.func100 (by kernel_rfl) (eP (λ_=>by kernel_rfl))
def vK (t:MV):Option MV:=gA t λcs=>
 gC cs λm zu=>
 gL m λL=>
 gN zu<|
 cy L λlen=>
 bd (Loop (λwz=>
 gC wz λm1 pR=>
 gI .i64 m1 λx=>
 gN pR<|
 bH (decide (x<(len:Int))) (
 idx L x λy=>
 gA y λhU=>
 mq hU λBy View Value=>
 bd (
 bd (nz (.agg [.i .i64 By,.i .i64 View,.s Value])) λrA=>
 gB rA λx1=>
 bH (!x1) (
 some [.b true]) (
 bH (decide ((0:Int)<x)) (
 idx L (cV .i64 (x-1)) λy1=>
 gA y1 λqw=>
 mq qw λO2 fO bX=>
 some [.b (decide (By<=O2))]) (
 some [.b false]))) λvs=>
 gC vs λm8 uy=>
 gB m8 λx2=>
 gN uy<|
 bH x2 (
 some (.inr (1,[.b false]))) (
 some (.inl [.i .i64 (cV .i64 (x+1))]))) (
 some (.inr (2,[])))) [.i .i64 0]) λp=>
 bH (sh p.1 2) (
 gN p.2<|
 some (.b true)) (
 du (sh p.1 1)<|
 gC p.2 λm9 xl=>
 gB m9 λx3=>
 gN xl<|
 some (.b x3))
def GQ:GT:=bN 160 (qS vK) M4
theorem Hv:SG GQ:=Dx LC [] [] 33 [] [] [] [(4,[0,1,2,3,4,5,6,7,8,9,10,11,12,13,14,15,16,17,18])] [(4,⟨[1,3,4,6,7,8],[],[],[(0,[(31,.sc (.k .b))])],[]⟩)] [] [(2,⟨[1,6,7],[],[(8,.sc (.k (.i .i64)))],[(1,[(2,.sc (.k .b))]),(2,[])],[]⟩)] [] Tryz.func160 (by kernel_rfl) (eP (λ_=>by kernel_rfl))
def pU (t view value:MV):Option MV:=gA t λcs=>
 gC cs λm zu=>
 gL m λL=>
 gN zu<|
 gI .i64 view λlz=>
 gS value λqY=>
 cy L λlen=>
 bd (Loop (λwz=>
 GJ wz λout x=>
 bH (decide (x<(len:Int))) (
 idx L x λy=>
 gA y λhU=>
 mq hU λBy View Value=>
 bd (
 bH (decide (View=lz)) (
 some [.b (decide (Value=qY))]) (
 some [.b false])) λvs=>
 gC vs λm6 C9=>
 gB m6 λx1=>
 gN C9<|
 bd (
 bH x1 (
 cy out λgK=>
 cy ([.agg [.i .i64 By,.i .i64 View,.s Value]]:List MV) λr9=>
 du (decide ((gK+r9) *32<=2^46))<|
 some (0,[.list (out++([.agg [.i .i64 By,.i .i64 View,.s Value]]:List MV))])) (
 some (0,[.list out]))) λp1=>
 du (sh p1.1 0)<|
 gC p1.2 λm7 Az=>
 gL m7 λaiK=>
 gN Az<|
 some (.inl [.list aiK,.i .i64 (cV .i64 (x+1))])) (
 some (.inr (2,[.list out])))) [.list ([]:List MV),.i .i64 0]) λp=>
 du (sh p.1 2)<|
 gC p.2 λm8 uy=>
 gL m8 λary=>
 gN uy<|
 some (.list ary)
def Eg:GT:=bN 159 (D7 pU) GQ
theorem FL:SG Eg:=Dx Hv [] [] 33 [29] [] [] [] [(5,⟨[1,2,7,9,11,12,13],[30],[],[(0,[(26,.sc (.k .b))])],[30]⟩)] [(6,⟨[1,2,9,11,12,13],[],[],[(0,[(7,.sc (.own 30 58 true))])],[30]⟩)] [(3,⟨[1,2,11,12],[],[(7,.sc (.own 30 58 true)),(13,.sc (.k (.i .i64)))],[(2,[(7,.sc (.own 30 58 true))])],[30]⟩)] [] Tryz.func159 (by kernel_rfl) (ot (λ_ _ _=>by kernel_rfl))
def vL (t view value:MV):Option MV:=gA t λcs=>
 gC cs λm zu=>
 gL m λL=>
 gN zu<|
 gI .i64 view λlz=>
 gS value λqY=>
 bd (pU (.agg [.list L]) (.i .i64 lz) (.s qY)) λrA=>
 gL rA λx=>
 cy x λlen=>
 some (.i .i64 (len:Int))
def GR:GT:=bN 161 (D7 vL) Eg
theorem Hw:SG GR:=sS FL [] 12 [] [] [] Tryz.func161 (by kernel_rfl) (ot (λ_ _ _=>by kernel_rfl))
def pc (sA p:MV):Option MV:=gA sA λcs=>
 Dw cs λF T=>
 gL p λp1=>
 bd (
 bd (ll (.agg [.i .i64 F,.i .i64 T])) λrA=>
 gB rA λx=>
 bH (!x) (
 some [.b true]) (
 cy p1 λlen=>
 bd (oT (.agg [.i .i64 F,.i .i64 T])) λbu=>
 gI .i64 bu λx1=>
 bH (!decide ((len:Int)=x1)) (
 some [.b true]) (
 bd (vK (.agg [.list p1])) λcg=>
 gB cg λx2=>
 some [.b (!x2)]))) λvs=>
 gC vs λm2 pR=>
 gB m2 λx3=>
 gN pR<|
 bH x3 (
 some (.b false)) (
 bd (
 cy p1 λgK=>
 idx p1 (cV .i64 ((gK:Int)-1)) λy=>
 gA y λhU=>
 mq hU λBy View Value=>
 bd (sH (.agg [.i .i64 F,.i .i64 T])) λcM=>
 gI .i64 cM λx4=>
 bH (decide (By<x4)) (
 idx p1 0 λy1=>
 gA y1 λqw=>
 mq qw λO2 fO bX=>
 idx p1 0 λy2=>
 gA y2 λxJ=>
 mq xJ λBy2 GP kh=>
 cy p1 λr9=>
 bd (vL (.agg [.list p1]) (.i .i64 fO) (.s kh)) λiR=>
 gI .i64 iR λx5=>
 some [.b (decide (x5=(r9:Int)))]) (
 some [.b false])) λlK=>
 gC lK λFE mS=>
 gB FE λx6=>
 gN mS<|
 some (.b x6))
def GS:GT:=bN 102 (jN pc) GR
theorem Hx:SG GS:=Dx Hw [] [] 47 [] [] [] [(3,[0,1,2,3,4,5,6,7,8,9,10,11,12,13,14,15,16,17,18,19,20,22,23,21,24,25,26])] [(3,⟨[1,2],[],[],[(0,[(4,.sc (.k .b))])],[]⟩),(1,⟨[1,2],[],[],[(0,[(20,.sc (.k .b))])],[]⟩)] [] [] [] Tryz.func102 (by kernel_rfl) (cf (λ_ _=>by kernel_rfl))
def iH (a:MV):Option MV:=gA a λcs=>
 iz cs λSF ST Me View Has At Value Proof jg=>
 bd (
 bH (decide (View<0)) (
 some [.b true]) (
 some [.b (decide ((100000:Int)<View))])) λvs=>
 gC vs λm9 uy=>
 gB m9 λx=>
 gN uy<|
 bH x (
 some (.b false)) (
 bd (
 bH Has (
 bH (decide (At<0)) (
 some [.b true]) (
 bH (decide (View<At)) (
 some [.b true]) (
 some [.b (decide ((6000:Int)<(Value.length:Int)))]))) (
 some [.b false])) λlK=>
 gC lK λOV xl=>
 gB OV λx1=>
 gN xl<|
 bH x1 (
 some (.b false)) (
 bd (
 bH (!Has) (
 bH (!decide (At=0)) (
 some [.b true]) (
 some [.b (!decide (Value=([]:List UInt8)))])) (
 some [.b false])) λuj=>
 gC uj λLy xm=>
 gB Ly λx2=>
 gN xm<|
 bH x2 (
 some (.b false)) (
 bd (
 cy Proof λlen=>
 bH (decide ((len:Int)=0)) (
 some [.b true]) (
 bd (pc (.agg [.i .i64 SF,.i .i64 ST]) (.list Proof)) λrA=>
 gB rA λx3=>
 bH x3 (
 idx Proof 0 λy=>
 gA y λhU=>
 mq hU λBy fO bX=>
 some [.b (decide (fO<=View))]) (
 some [.b false]))) λvs3=>
 gC vs3 λT6 xn=>
 gB T6 λx4=>
 gN xn<|
 some (.b x4))))
def pV:GT:=bN 130 (qS iH) GS
theorem uE:SG pV:=Dx Hx [] [] 68 [] [] [] [(7,[0,1,2,3,4,5,6,7,8,9,10,11,12,13,14,15,16,17,18,19,20,21])] [(7,⟨[1],[],[],[(0,[(2,.sc (.k .b))])],[]⟩),(5,⟨[1],[],[],[(0,[(33,.sc (.k .b))])],[]⟩),(3,⟨[1],[],[],[(0,[(12,.sc (.k .b))])],[]⟩),(1,⟨[1],[],[],[(0,[(3,.sc (.k .b))])],[]⟩)] [] [] [] Tryz.func130 (by kernel_rfl) (eP (λ_=>by kernel_rfl))
def rz (a a1 a2:MV):Option MV:=gA a λcs=>
 Dw cs λF T=>
 gI .i64 a1 λmu=>
 gL a2 λabA=>
 bd (pS (.agg [.i .i64 F,.i .i64 T]) (.i .i64 mu)) λrA=>
 gT rA λvs=>
 gC vs λm2 pR=>
 gA m2 λhU=>
 iz hU λSF ST Me View Has At Value Proof jg=>
 gC pR λFE mS=>
 gI .i64 FE λx=>
 gN mS<|
 bH (!decide (x=0)) (
 some (.eu [.agg (df 0 0 0 0 false 0 ([]:List UInt8) ([]:List MV) ([]:List MV)),.i .i64 x])) (
 bd (dK [.list abA,.i .i64 0]) λbu=>
 gW bu λx1 ls=>
 GJ ls λb eA=>
 gI .i64 x1 λx2=>
 bd (dK [.list b,.i .i64 eA]) λcg=>
 gW cg λx3 ls1=>
 GJ ls1 λb1 eA1=>
 gI .i64 x3 λx4=>
 bd (dK [.list b1,.i .i64 eA1]) λcM=>
 gW cM λx5 ls2=>
 GJ ls2 λb2 eA2=>
 gI .i64 x5 λx6=>
 bd (iA [.list b2,.i .i64 eA2]) λiR=>
 gW iR λx7 ls3=>
 GJ ls3 λb3 eA3=>
 gS x7 λx8=>
 bd (jU [.list b3,.i .i64 eA3]) λmc=>
 gW mc λx9 ls4=>
 GJ ls4 λb4 eA4=>
 gL x9 λqE=>
 bd (
 bH (!decide (eA4=0)) (
 some [.b true]) (
 bd (n9 (.b (decide (x4=1)))) λsw=>
 gI .i64 sw λsB=>
 bH (!decide (x4=sB)) (
 some [.b true]) (
 cy b4 λlen=>
 bH (decide ((0:Int)<(len:Int))) (
 some [.b true]) (
 bd (iH (.agg (df SF ST Me x2 (decide (x4=1)) x6 x8 qE jg))) λDv=>
 gB Dv λsQ=>
 some [.b (!sQ)])))) λlK=>
 gC lK λm23 Rs=>
 gB m23 λsG=>
 gN Rs<|
 bH sG (
 some (.eu [.agg (df 0 0 0 0 false 0 ([]:List UInt8) ([]:List MV) ([]:List MV)),.i .i64 3])) (
 some (.eu [.agg (df SF ST Me x2 (decide (x4=1)) x6 x8 qE jg),.i .i64 0])))
def Ct:GT:=bN 63 (D7 rz) pV
theorem Eh:SG Ct:=fnX uE [] [] 68 [] [] [] [] [(8,⟨[6,8,9,10,11,14],[],[],[(0,[(64,.sc (.k .b))])],[]⟩)] [] [] [] Tryz.func63 (by kernel_rfl) (ot (λ_ _ _=>by kernel_rfl))
def uF (p:MV):Option MV:=gL p λp1=>
 cy p1 λlen=>
 bH (decide ((len:Int)=0)) (
 some (.eu [.i .i64 (-1),.s ([]:List UInt8),.b false])) (
 idx p1 0 λy=>
 gA y λcs=>
 mq cs λBy View Value=>
 idx p1 0 λy1=>
 gA y1 λhU=>
 mq hU λO2 fO bX=>
 some (.eu [.i .i64 View,.s bX,.b true]))
def Rt:GT:=bN 99 (qS uF) Ct
theorem O3:SG Rt:=Dx Eh [] [] 16 [] [] [] [(3,[0,1,2,3,4,5,6,7,8,9,10])] [] [] [] [] Tryz.func99 (by kernel_rfl) (eP (λ_=>by kernel_rfl))
def yw (x:MV):Option MV:=gI .u64 x λx1=>
 bd (
 bH (decide ((4294967296:Int)<=x1)) (
 du (decide ((0:Int)<=32))<|
 some (0,[.i .u64 (aaJ x1 (2^min (AI 32) (BY .u64))),.i .i64 32])) (
 some (0,[.i .u64 x1,.i .i64 0]))) λp=>
 du (sh p.1 0)<|
 oII .u64 .i64 p.2 λx2 n=>
 bd (
 bH (decide ((65536:Int)<=x2)) (
 du (decide ((0:Int)<=16))<|
 some (0,[.i .u64 (aaJ x2 (2^min (AI 16) (BY .u64))),.i .i64 (cV .i64 (n+16))])) (
 some (0,[.i .u64 x2,.i .i64 n]))) λp1=>
 du (sh p1.1 0)<|
 oII .u64 .i64 p1.2 λx3 n1=>
 bd (
 bH (decide ((256:Int)<=x3)) (
 du (decide ((0:Int)<=8))<|
 some (0,[.i .u64 (aaJ x3 (2^min (AI 8) (BY .u64))),.i .i64 (cV .i64 (n1+8))])) (
 some (0,[.i .u64 x3,.i .i64 n1]))) λp2=>
 du (sh p2.1 0)<|
 oII .u64 .i64 p2.2 λx4 n2=>
 du (decide ((0:Int)<=(cV .u8 x4)/\(cV .u8 x4)<(((([0,1,2,2,3,3,3,3,4,4,4,4,4,4,4,4,5,5,5,5,5,5,5,5,5,5,5,5,5,5,5,5,6,6,6,6,6,6,6,6,6,6,6,6,6,6,6,6,6,6,6,6,6,6,6,6,6,6,6,6,6,6,6,6]:List UInt8)++([7,7,7,7,7,7,7,7,7,7,7,7,7,7,7,7,7,7,7,7,7,7,7,7,7,7,7,7,7,7,7,7,7,7,7,7,7,7,7,7,7,7,7,7,7,7,7,7,7,7,7,7,7,7,7,7,7,7,7,7,7,7,7,7]:List UInt8))++(([8,8,8,8,8,8,8,8,8,8,8,8,8,8,8,8,8,8,8,8,8,8,8,8,8,8,8,8,8,8,8,8,8,8,8,8,8,8,8,8,8,8,8,8,8,8,8,8,8,8,8,8,8,8,8,8,8,8,8,8,8,8,8,8]:List UInt8)++([8,8,8,8,8,8,8,8,8,8,8,8,8,8,8,8,8,8,8,8,8,8,8,8,8,8,8,8,8,8,8,8,8,8,8,8,8,8,8,8,8,8,8,8,8,8,8,8,8,8,8,8,8,8,8,8,8,8,8,8,8,8,8,8]:List UInt8))).length:Int)))<|
 some (.i .i64 (cV .i64 (n2+(cV .i64 ((((([0,1,2,2,3,3,3,3,4,4,4,4,4,4,4,4,5,5,5,5,5,5,5,5,5,5,5,5,5,5,5,5,6,6,6,6,6,6,6,6,6,6,6,6,6,6,6,6,6,6,6,6,6,6,6,6,6,6,6,6,6,6,6,6]:List UInt8)++([7,7,7,7,7,7,7,7,7,7,7,7,7,7,7,7,7,7,7,7,7,7,7,7,7,7,7,7,7,7,7,7,7,7,7,7,7,7,7,7,7,7,7,7,7,7,7,7,7,7,7,7,7,7,7,7,7,7,7,7,7,7,7,7]:List UInt8))++(([8,8,8,8,8,8,8,8,8,8,8,8,8,8,8,8,8,8,8,8,8,8,8,8,8,8,8,8,8,8,8,8,8,8,8,8,8,8,8,8,8,8,8,8,8,8,8,8,8,8,8,8,8,8,8,8,8,8,8,8,8,8,8,8]:List UInt8)++([8,8,8,8,8,8,8,8,8,8,8,8,8,8,8,8,8,8,8,8,8,8,8,8,8,8,8,8,8,8,8,8,8,8,8,8,8,8,8,8,8,8,8,8,8,8,8,8,8,8,8,8,8,8,8,8,8,8,8,8,8,8,8,8]:List UInt8))).getD (AI (cV .u8 x4)) 0).toNat:Int)))))
def JO:GT:=bN 191 (qS yw) Rt
theorem JP:SG JO:=sS O3 [] 25 [] [(8,⟨[],[],[],[(0,[(0,.sc (.k (.i .u64))),(2,.sc (.k (.i .i64)))])],[]⟩),(5,⟨[],[],[],[(0,[(0,.sc (.k (.i .u64))),(2,.sc (.k (.i .i64)))])],[]⟩),(2,⟨[],[],[],[(0,[(0,.sc (.k (.i .u64))),(2,.sc (.k (.i .i64)))])],[]⟩)] [] Tryz.func191 (by kernel_rfl) (eP (λ_=>by kernel_rfl))
def yx (n:MV):Option MV:=gI .u64 n λn1=>
 bd (yw (.i .u64 n1)) λrA=>
 gI .i64 rA λx=>
 du (!decide ((8:Int)=0))<|
 some (.i .i64 (cV .i64 (1+(cV .i64 (Int.tdiv (cV .i64 (x+7)) 8)))))
def JQ:GT:=bN 186 (qS yx) JO
theorem JR:SG JQ:=sS JP [] 8 [] [] [] Tryz.func186 (by kernel_rfl) (eP (λ_=>by kernel_rfl))
def ox (sA:MV):Option MV:=gL sA λDy=>
 cy Dy λlen=>
 cy Dy λgK=>
 du (decide ((len:Int)=(Dy.length:Int)/\(gK:Int)=(Dy.length:Int)))<|
 some (.clip Dy)
def zh:GT:=bN 187 (qS ox) JQ
theorem B6:SG zh:=sS JR [] 9 [] [] [] Tryz.func187 (by kernel_rfl) (eP (λ_=>by kernel_rfl))
def xq (b n:MV):Option MV:=gL b λb1=>
 gI .u64 n λn1=>
 bd (yx (.i .u64 n1)) λrA=>
 gI .i64 rA λx=>
 bd (ox (.list b1)) λbu=>
 gCl bu λxs=>
 du (pu 1 xs)<|
 cy xs λlen=>
 cy ([.i .u8 (cV .u8 (cV .i64 (x-1)))]:List MV) λgK=>
 du (decide (0<gK/\(len+gK) *1<=2^46))<|
 bd (Loop (λzu=>
 GJ zu λout i=>
 bH (decide ((0:Int)<=i)) (
 du (decide ((0:Int)<=(cV .i64 (8 *i))))<|
 cy out λr9=>
 cy ([.i .u8 (cV .u8 (aaJ n1 (2^min (AI (cV .i64 (8 *i))) (BY .u64))))]:List MV) λC8=>
 du (decide ((r9+C8) *1<=2^46))<|
 some (.inl [.list (out++([.i .u8 (cV .u8 (aaJ n1 (2^min (AI (cV .i64 (8 *i))) (BY .u64))))]:List MV)),.i .i64 (cV .i64 (i-1))])) (
 some (.inr (2,[.list out])))) [.list (xs++([.i .u8 (cV .u8 (cV .i64 (x-1)))]:List MV)),.i .i64 (cV .i64 ((cV .i64 (x-1))-1))]) λp=>
 du (sh p.1 2)<|
 gC p.2 λm2 C6=>
 gL m2 λaiK=>
 gN C6<|
 some (.fresh aiK)
def M5:GT:=bN 170 (jN xq) zh
theorem LD:SG M5:=fnF B6 5 [] [] 32 [15,29] [] [] [] [] [] [(4,⟨[1],[],[(6,.sc (.own 16 5 false)),(7,.sc (.k (.i .i64)))],[(2,[(6,.sc (.own 16 5 false))])],[]⟩)] [] Tryz.func170 (by kernel_rfl) (by kernel_rfl) (cf (λ_ _=>by kernel_rfl))
def nA (b n:MV):Option MV:=gL b λb1=>
 gI .i64 n λn1=>
 du (decide ((0:Int)<=1))<|
 du (decide ((0:Int)<=63))<|
 bd (xq (.list b1) (.i .u64 (E8 .u64 (cV .u64 ((cV .u64 n1) *2^min (AI 1) (BY .u64))) (cV .u64 (aaJ n1 (2^min (AI 63) (BY .i64))))))) λrA=>
 gF rA λxs=>
 some (.fresh xs)
def M6:GT:=bN 131 (jN nA) M5
theorem LF:SG M6:=fnF LD 5 [] [] 14 [] [] [] [] [] [] [] [] Tryz.func131 (by kernel_rfl) (by kernel_rfl) (cf (λ_ _=>by kernel_rfl))
def uG (b sA:MV):Option MV:=gL b λb1=>
 gS sA λDy=>
 bd (xq (.list b1) (.i .u64 (cV .u64 (Dy.length:Int)))) λrA=>
 gF rA λxs=>
 cy xs λlen=>
 cy (PR Dy) λgK=>
 du (decide ((len+gK) *1<=2^46))<|
 some (.fresh (xs++(PR Dy)))
def JS:GT:=bN 132 (jN uG) M6
theorem JT:SG JS:=fnF LF 5 [] [] 12 [] [] [] [] [] [] [] [] Tryz.func132 (by kernel_rfl) (by kernel_rfl) (cf (λ_ _=>by kernel_rfl))
def rC (a:MV):Option MV:=gA a λcs=>
 iz cs λSF ST Me View Has At Value Proof jg=>
 bd (nA (.list ([]:List MV)) (.i .i64 View)) λrA=>
 gF rA λxs=>
 bd (n9 (.b Has)) λbu=>
 gI .i64 bu λx=>
 bd (nA (.list xs) (.i .i64 x)) λcg=>
 gF cg λLB=>
 bd (nA (.list LB) (.i .i64 At)) λcM=>
 gF cM λRn=>
 cy Proof λlen=>
 bd (uG (.list Rn) (.s Value)) λiR=>
 gF iR λVQ=>
 bd (nA (.list VQ) (.i .i64 (len:Int))) λmc=>
 gF mc λxs4=>
 cy Proof λgK=>
 bd (Loop (λuy=>
 GJ uy λb x1=>
 bH (decide (x1<(gK:Int))) (
 idx Proof x1 λy=>
 gA y λhU=>
 mq hU λBy fO bX=>
 bd (nA (.list b) (.i .i64 By)) λsw=>
 gF sw λxs5=>
 some (.inl [.list xs5,.i .i64 (cV .i64 (x1+1))])) (
 some (.inr (2,[.list b])))) [.list xs4,.i .i64 0]) λp=>
 du (sh p.1 2)<|
 gC p.2 λLz xn=>
 gL Lz λb1=>
 gN xn<|
 bd (uF (.list Proof)) λDv=>
 gT Dv λvs=>
 OY vs λx2 x3 x4=>
 bd (
 bH x4 (
 bd (nA (.list b1) (.i .i64 x2)) λrA8=>
 gF rA8 λxs6=>
 bd (uG (.list xs6) (.s x3)) λrA9=>
 gF rA9 λxs7=>
 some (0,[.list xs7])) (
 some (0,[.list b1]))) λp1=>
 du (sh p1.1 0)<|
 gC p1.2 λOX uA=>
 gL OX λb2=>
 gN uA<|
 some (.list b2)
def Cu:GT:=bN 64 (qS rC) JS
theorem Ei:SG Cu:=Dx JT [] [] 53 [] [] [] [(1,[0,1,3,4,7,8,2,5,6,9,10]),(2,[0,1,2,4,5,6,3,7,8])] [] [(10,⟨[6,7],[],[],[(0,[(3,.sc (.own 26 5 true))])],[11,15,18,22,26,37,49,51]⟩)] [(4,⟨[1,28,29],[],[(3,.sc (.own 26 5 true)),(30,.sc (.k (.i .i64)))],[(2,[(3,.sc (.own 26 5 true))])],[11,15,18,22,26,37,49,51]⟩)] [] Tryz.func64 (by kernel_rfl) (eP (λ_=>by kernel_rfl))
def tj (sA i n:MV):Option MV:=gA sA λcs=>
 Dw cs λF T=>
 gI .i64 i λi1=>
 gA n λhU=>
 ba hU λAD AE AF eI mT AG ei ej cZ AH AJ bQ bR ek fV eo dq et=>
 bd (rC (.agg (df AD AE AF eI mT AG ei ej cZ))) λrA=>
 gL rA λx=>
 bd (rz (.agg [.i .i64 F,.i .i64 T]) (.i .i64 i1) (.list x)) λbu=>
 gT bu λvs=>
 gC vs λXL uB=>
 gA XL λqw=>
 iz qw λSF ST Me View Has At Value Proof jg=>
 gC uB λm30 JU=>
 gI .i64 m30 λx1=>
 gN JU<|
 bd (sa (.agg [.i .i64 F,.i .i64 T])) λcg=>
 gT cg λlK=>
 gC lK λm31 Ru=>
 gA m31 λxJ=>
 ik xJ λzw zx gp gq qF bw bX=>
 gC Ru λm39 Ro=>
 gI .i64 m39 λx2=>
 gN Ro<|
 some (.agg (aw SF ST Me View Has At Value Proof jg zw zx gp gq qF bw bX ([]:List MV) View))
def Ej:GT:=bN 22 (D7 tj) Cu
theorem FM:SG Ej:=Dx Ei [] [] 30 [] [] [] [(1,[0,1,2,3,4,5,6,7,8,9,10,11])] [] [] [] [] Tryz.func22 (by kernel_rfl) (ot (λ_ _ _=>by kernel_rfl))
def fp (c i bad:MV):Option MV:=gA c λcs=>
 dj cs λSF ST bY Want N aC=>
 gI .i64 i λi1=>
 gB bad λarz=>
 bd (
 bH (decide ((0:Int)<=i1)) (
 cy bY λlen=>
 bH (decide (i1<(len:Int))) (
 idx bY i1 λy=>
 gB y λx=>
 some [.b (decide (x=arz))]) (
 some [.b false])) (
 some [.b false])) λvs=>
 gC vs λm6 JC=>
 gB m6 λx1=>
 gN JC<|
 some (.b x1)
def GU:GT:=bN 73 (D7 fp) Ej
theorem Hy:SG GU:=sS FM [] 25 [(1,⟨[1,2,3],[],[],[(0,[(6,.sc (.k .b))])],[]⟩)] [] [] Tryz.func73 (by kernel_rfl) (ot (λ_ _ _=>by kernel_rfl))
def jy (s1 s2:MV):Option MV:=gL s1 λUb=>
 gL s2 λabK=>
 cy Ub λlen=>
 cy abK λgK=>
 bH (!decide ((len:Int)=(gK:Int))) (
 some (.b false)) (
 cy Ub λr9=>
 bd (Loop (λzu=>
 gC zu λm wz=>
 gI .i64 m λx=>
 gN wz<|
 bH (decide (x<(r9:Int))) (
 idx Ub x λy=>
 gA y λcs=>
 mq cs λBy View Value=>
 idx abK x λy1=>
 gA y1 λhU=>
 mq hU λO2 fO bX=>
 bH (!((decide (By=O2))&&((decide (View=fO))&&(decide (Value=bX))))) (
 some (.inr (1,[.b false]))) (
 some (.inl [.i .i64 (cV .i64 (x+1))]))) (
 some (.inr (2,[])))) [.i .i64 0]) λp=>
 bH (sh p.1 2) (
 gN p.2<|
 some (.b true)) (
 du (sh p.1 1)<|
 gC p.2 λm7 Az=>
 gB m7 λx1=>
 gN Az<|
 some (.b x1)))
def qG:GT:=bN 180 (jN jy) GU
theorem u9:SG qG:=Dx Hy [] [] 26 [] [] [] [(6,[0,1,2,3,4,5,6,7,8])] [] [] [(4,⟨[0,1,12],[],[(13,.sc (.k (.i .i64)))],[(1,[(4,.sc (.k .b))]),(2,[])],[]⟩)] [] Tryz.func180 (by kernel_rfl) (cf (λ_ _=>by kernel_rfl))
def yy (a b:MV):Option MV:=gL a λa1=>
 gL b λb1=>
 bd (jy (.list a1) (.list b1)) λrA=>
 gB rA λx=>
 some (.b x)
def JV:GT:=bN 152 (jN yy) qG
theorem JW:SG JV:=sS u9 [] 8 [] [] [] Tryz.func152 (by kernel_rfl) (cf (λ_ _=>by kernel_rfl))
def rD (x y:MV):Option MV:=gA x λcs=>
 iu cs λBy fS Has View Value Proof=>
 gA y λhU=>
 iu hU λO2 XM Ek fO bX oU=>
 bd (
 bH (decide (By=O2)) (
 bH (decide (fS=XM)) (
 bH (decide (Has=Ek)) (
 bH (decide (View=fO)) (
 bH (decide (Value=bX)) (
 bd (yy (.list Proof) (.list oU)) λrA=>
 gB rA λx1=>
 some [.b x1]) (
 some [.b false])) (
 some [.b false])) (
 some [.b false])) (
 some [.b false])) (
 some [.b false])) λvs=>
 gC vs λFE mS=>
 gB FE λx2=>
 gN mS<|
 some (.b x2)
def wB:GT:=bN 176 (jN rD) JV
theorem El:SG wB:=sS JW [] 45 [(1,⟨[2,3],[],[],[(0,[(4,.sc (.k .b))])],[]⟩)] [] [] Tryz.func176 (by kernel_rfl) (cf (λ_ _=>by kernel_rfl))
def dg:GT:=wB
theorem gY (x0 x1:MV):dg 176 [x0,x1]=rD x0 x1:=by kernel_rfl
def ch (s1 s2 eq:MV):Option MV:=gL s1 λUb=>
 gL s2 λabK=>
 gR eq λeq1=>
 cy Ub λlen=>
 cy abK λgK=>
 bH (!decide ((len:Int)=(gK:Int))) (
 some (.b false)) (
 cy Ub λr9=>
 bd (Loop (λzu=>
 gC zu λm wz=>
 gI .i64 m λx=>
 gN wz<|
 bH (decide (x<(r9:Int))) (
 idx Ub x λy=>
 gA y λcs=>
 iu cs λBy fS Has View Value Proof=>
 idx abK x λy1=>
 gA y1 λhU=>
 iu hU λO2 XM Ek fO bX oU=>
 Yw eq1 λfn cap=>
 du (!gv fn)<|
 bd (dg fn ([.agg (gd By fS Has View Value Proof),.agg (gd O2 XM Ek fO bX oU)]++cap)) λrA=>
 gB rA λx1=>
 bH (!x1) (
 some (.inr (1,[.b false]))) (
 some (.inl [.i .i64 (cV .i64 (x+1))]))) (
 some (.inr (2,[])))) [.i .i64 0]) λp=>
 bH (sh p.1 2) (
 gN p.2<|
 some (.b true)) (
 du (sh p.1 1)<|
 gC p.2 λOW AB=>
 gB OW λx2=>
 gN AB<|
 some (.b x2)))
def fq:GT:=bN 175 (D7 ch) wB
theorem jE:SG fq:=sS El [] 32 [] [] [(4,⟨[1,2,15,16],[],[(17,.sc (.k (.i .i64)))],[(1,[(6,.sc (.k .b))]),(2,[])],[]⟩)] Tryz.func175 (by kernel_rfl) (ot (λ_ _ _=>by kernel_rfl))
def vM (a b:MV):Option MV:=gL a λa1=>
 gL b λb1=>
 bd (ch (.list a1) (.list b1) (.func 176 [])) λrA=>
 gB rA λx=>
 some (.b x)
def GV:GT:=bN 144 (jN vM) fq
theorem Hz:SG GV:=sS jE [] 8 [] [] [] Tryz.func144 (by kernel_rfl) (cf (λ_ _=>by kernel_rfl))
def kv (m c:MV):Option MV:=gA m λcs=>
 eC cs λKind cN View Value fC jh eJ dH Proof Le wC wD oa ki jF=>
 gP c λhU=>
 iu hU λBy fS Has fO bX oU=>
 bd (
 bH (decide (Kind=4)) (
 bd (vM (.list ([.agg (gd Le wC wD oa ki jF)]:List MV)) (.list ([.agg (gd By fS Has fO bX oU)]:List MV))) λrA=>
 gB rA λx=>
 some [.b x]) (
 some [.b false])) λvs=>
 gC vs λm22 Ed=>
 gB m22 λx1=>
 gN Ed<|
 some (.b x1)
def sV:GT:=bN 143 (jN kv) GV
theorem xr:SG sV:=Dx Hz [[.i .i64,.i .i64,.b,.i .i64,.s,.l]] [] 15 [10,12] [] [] [] [(1,⟨[1,2],[],[],[(0,[(3,.sc (.k .b))])],[]⟩)] [] [] [] Tryz.func143 (by kernel_rfl) (cf (λ_ _=>by kernel_rfl))
def mf (m c:MV):Option MV:=gA m λcs=>
 eC cs λKind cN View Value fC jh eJ dH Proof Le wC wD oa ki jF=>
 gP c λhU=>
 mq hU λBy fO bX=>
 bd (
 bH (decide (Kind=2)) (
 some [.b ((decide (jh=By))&&((decide (eJ=fO))&&(decide (dH=bX))))]) (
 some [.b false])) λvs=>
 gC vs λm19 n8=>
 gB m19 λx=>
 gN n8<|
 some (.b x)
def pW:GT:=bN 179 (jN mf) sV
theorem zy:SG pW:=sS xr [[.i .i64,.i .i64,.s]] 13 [(1,⟨[1,2],[],[],[(0,[(3,.sc (.k .b))])],[]⟩)] [] [] Tryz.func179 (by kernel_rfl) (cf (λ_ _=>by kernel_rfl))
def eK:GT:=pW
theorem fP (x0 x1:MV):eK 143 [x0,x1]=kv x0 x1:=by kernel_rfl
theorem lW (x0 x1:MV):eK 179 [x0,x1]=mf x0 x1:=by kernel_rfl
def iv (sA f:MV):Option MV:=gL sA λDy=>
 gR f λf1=>
 cy Dy λlen=>
 bd (Loop (λzu=>
 gC zu λm wz=>
 gI .i64 m λx=>
 gN wz<|
 bH (decide (x<(len:Int))) (
 idx Dy x λy=>
 gA y λcs=>
 eC cs λKind cN View Value fC jh eJ dH Proof Le wC wD oa ki jF=>
 Yw f1 λfn cap=>
 du (!gv fn)<|
 bd (eK fn ([.agg (aF Kind cN View Value fC jh eJ dH Proof Le wC wD oa ki jF)]++cap)) λrA=>
 gB rA λx1=>
 bH x1 (
 some (.inr (1,[.i .i64 x]))) (
 some (.inl [.i .i64 (cV .i64 (x+1))]))) (
 some (.inr (2,[])))) [.i .i64 0]) λp=>
 bH (sh p.1 2) (
 gN p.2<|
 some (.i .i64 (-1))) (
 du (sh p.1 1)<|
 gC p.2 λXF sd=>
 gI .i64 XF λx2=>
 gN sd<|
 some (.i .i64 x2))
def pe:GT:=bN 177 (jN iv) pW
theorem tk:SG pe:=sS zy [] 19 [] [] [(2,⟨[0,1,7],[],[(8,.sc (.k (.i .i64)))],[(1,[(4,.sc (.k (.i .i64)))]),(2,[])],[]⟩)] Tryz.func177 (by kernel_rfl) (cf (λ_ _=>by kernel_rfl))
def dA (sA f:MV):Option MV:=gL sA λDy=>
 gR f λf1=>
 bd (iv (.list Dy) f1) λrA=>
 gI .i64 rA λx=>
 some (.b (decide ((0:Int)<=x)))
def mU:GT:=bN 145 (jN dA) pe
theorem qZ:SG mU:=sS tk [] 9 [] [] [] Tryz.func145 (by kernel_rfl) (cf (λ_ _=>by kernel_rfl))
def oz (c a:MV):Option MV:=gA c λcs=>
 dj cs λSF ST bY Want N aC=>
 gA a λhU=>
 mq hU λBy View Value=>
 bd (
 bd (fp (.agg (bk SF ST bY Want N aC)) (.i .i64 By) (.b true)) λrA=>
 gB rA λx=>
 bH x (
 some [.b true]) (
 bd (dA (.list aC) (.func 179 [.rp [.i .i64 By,.i .i64 View,.s Value]])) λbu=>
 gB bu λx1=>
 some [.b x1])) λvs=>
 gC vs λm9 uy=>
 gB m9 λx2=>
 gN uy<|
 some (.b x2)
def zj:GT:=bN 148 (jN oz) mU
theorem B7:SG zj:=sS qZ [] 17 [(2,⟨[2,3,5],[],[],[(0,[(4,.sc (.k .b))])],[]⟩)] [] [] Tryz.func148 (by kernel_rfl) (cf (λ_ _=>by kernel_rfl))
def kw (a c:MV):Option MV:=gA a λcs=>
 mq cs λBy View Value=>
 gP c λhU=>
 dj hU λSF ST bY Want N aC=>
 bd (oz (.agg (bk SF ST bY Want N aC)) (.agg [.i .i64 By,.i .i64 View,.s Value])) λrA=>
 gB rA λx=>
 some (.b (!x))
def nQ:GT:=bN 147 (jN kw) zj
theorem xt:SG nQ:=sS B7 [[.i .i64,.i .i64,.l,.l,.l,.l]] 8 [] [] [] Tryz.func147 (by kernel_rfl) (cf (λ_ _=>by kernel_rfl))
def fw:GT:=nQ
theorem kL (x0 x1:MV):fw 147 [x0,x1]=kw x0 x1:=by kernel_rfl
def gh (sA f:MV):Option MV:=gL sA λDy=>
 gR f λf1=>
 cy Dy λlen=>
 bd (Loop (λzu=>
 gC zu λm wz=>
 gI .i64 m λx=>
 gN wz<|
 bH (decide (x<(len:Int))) (
 idx Dy x λy=>
 gA y λcs=>
 mq cs λBy View Value=>
 Yw f1 λfn cap=>
 du (!gv fn)<|
 bd (fw fn ([.agg [.i .i64 By,.i .i64 View,.s Value]]++cap)) λrA=>
 gB rA λx1=>
 bH x1 (
 some (.inr (1,[.i .i64 x]))) (
 some (.inl [.i .i64 (cV .i64 (x+1))]))) (
 some (.inr (2,[])))) [.i .i64 0]) λp=>
 bH (sh p.1 2) (
 gN p.2<|
 some (.i .i64 (-1))) (
 du (sh p.1 1)<|
 gC p.2 λm4 FG=>
 gI .i64 m4 λx2=>
 gN FG<|
 some (.i .i64 x2))
def nG:GT:=bN 178 (jN gh) nQ
theorem se:SG nG:=sS xt [] 19 [] [] [(2,⟨[0,1,7],[],[(8,.sc (.k (.i .i64)))],[(1,[(4,.sc (.k (.i .i64)))]),(2,[])],[]⟩)] Tryz.func178 (by kernel_rfl) (cf (λ_ _=>by kernel_rfl))
def eT (sA f:MV):Option MV:=gL sA λDy=>
 gR f λf1=>
 bd (gh (.list Dy) f1) λrA=>
 gI .i64 rA λx=>
 some (.b (decide ((0:Int)<=x)))
def lB:GT:=bN 146 (jN eT) nG
theorem pX:SG lB:=sS se [] 9 [] [] [] Tryz.func146 (by kernel_rfl) (cf (λ_ _=>by kernel_rfl))
def iw (c lA:MV):Option MV:=gA c λcs=>
 dj cs λSF ST bY Want N aC=>
 gL lA λM7=>
 bd (eT (.list M7) (.func 147 [.rp (bk SF ST bY Want N aC)])) λrA=>
 gB rA λx=>
 some (.b (!x))
def vN:GT:=bN 81 (jN iw) lB
theorem zC:SG vN:=sS pX [] 9 [] [] [] Tryz.func81 (by kernel_rfl) (cf (λ_ _=>by kernel_rfl))
def mg (c rA:MV):Option MV:=gA c λcs=>
 dj cs λSF ST bY Want N aC=>
 gA rA λhU=>
 iu hU λBy fS Has View Value Proof=>
 bd (
 bd (fp (.agg (bk SF ST bY Want N aC)) (.i .i64 By) (.b true)) λbu=>
 gB bu λx=>
 bH x (
 bd (iw (.agg (bk SF ST bY Want N aC)) (.list Proof)) λcg=>
 gB cg λx1=>
 bH x1 (
 some [.b true]) (
 bd (dA (.list aC) (.func 143 [.rp (gd By fS Has View Value Proof)])) λcM=>
 gB cM λx2=>
 some [.b x2])) (
 bd (dA (.list aC) (.func 143 [.rp (gd By fS Has View Value Proof)])) λiR=>
 gB iR λx3=>
 some [.b x3])) λvs=>
 gC vs λFE mS=>
 gB FE λx4=>
 gN mS<|
 some (.b x4)
def vO:GT:=bN 80 (jN mg) vN
theorem zD:SG vO:=sS zC [] 23 [(2,⟨[2,3,5],[],[],[(0,[(4,.sc (.k .b))])],[]⟩)] [] [] Tryz.func80 (by kernel_rfl) (cf (λ_ _=>by kernel_rfl))
def tl (rA c:MV):Option MV:=gA rA λcs=>
 iu cs λBy fS Has View Value Proof=>
 gP c λhU=>
 dj hU λSF ST bY Want N aC=>
 bd (mg (.agg (bk SF ST bY Want N aC)) (.agg (gd By fS Has View Value Proof))) λbu=>
 gB bu λx=>
 some (.b (!x))
def yz:GT:=bN 79 (jN tl) vO
theorem FN:SG yz:=sS zD [[.i .i64,.i .i64,.l,.l,.l,.l]] 8 [] [] [] Tryz.func79 (by kernel_rfl) (cf (λ_ _=>by kernel_rfl))
def fA:GT:=yz
theorem nB (x0 x1:MV):fA 79 [x0,x1]=tl x0 x1:=by kernel_rfl
def gj (sA f:MV):Option MV:=gL sA λDy=>
 gR f λf1=>
 cy Dy λlen=>
 bd (Loop (λzu=>
 gC zu λm wz=>
 gI .i64 m λx=>
 gN wz<|
 bH (decide (x<(len:Int))) (
 idx Dy x λy=>
 gA y λcs=>
 iu cs λBy fS Has View Value Proof=>
 Yw f1 λfn cap=>
 du (!gv fn)<|
 bd (fA fn ([.agg (gd By fS Has View Value Proof)]++cap)) λrA=>
 gB rA λx1=>
 bH x1 (
 some (.inr (1,[.i .i64 x]))) (
 some (.inl [.i .i64 (cV .i64 (x+1))]))) (
 some (.inr (2,[])))) [.i .i64 0]) λp=>
 bH (sh p.1 2) (
 gN p.2<|
 some (.i .i64 (-1))) (
 du (sh p.1 1)<|
 gC p.2 λm7 Az=>
 gI .i64 m7 λx2=>
 gN Az<|
 some (.i .i64 x2))
def nH:GT:=bN 142 (jN gj) yz
theorem sf:SG nH:=sS FN [] 19 [] [] [(2,⟨[0,1,7],[],[(8,.sc (.k (.i .i64)))],[(1,[(4,.sc (.k (.i .i64)))]),(2,[])],[]⟩)] Tryz.func142 (by kernel_rfl) (cf (λ_ _=>by kernel_rfl))
def eU (sA f:MV):Option MV:=gL sA λDy=>
 gR f λf1=>
 bd (gj (.list Dy) f1) λrA=>
 gI .i64 rA λx=>
 some (.b (decide ((0:Int)<=x)))
def lC:GT:=bN 78 (jN eU) nH
theorem pY:SG lC:=sS sf [] 9 [] [] [] Tryz.func78 (by kernel_rfl) (cf (λ_ _=>by kernel_rfl))
def yA (c m:MV):Option MV:=gA c λcs=>
 dj cs λSF ST bY Want N aC=>
 gA m λhU=>
 eC hU λKind cN View Value fC jh eJ dH Proof Le wC wD oa ki jF=>
 bH (decide (Kind=1)) (
 bd (
 bd (fp (.agg (bk SF ST bY Want N aC)) (.i .i64 cN) (.b true)) λrA=>
 gB rA λx=>
 bH x (
 bd (eU (.list fC) (.func 79 [.rp (bk SF ST bY Want N aC)])) λbu=>
 gB bu λx1=>
 some [.b (!x1)]) (
 some [.b false])) λvs=>
 gC vs λm22 Ed=>
 gB m22 λx2=>
 gN Ed<|
 some (.b x2)) (
 bH (decide (Kind=2)) (
 bd (fp (.agg (bk SF ST bY Want N aC)) (.i .i64 jh) (.b true)) λcg=>
 gB cg λx3=>
 some (.b x3)) (
 bH (decide (Kind=3)) (
 bd (
 bd (fp (.agg (bk SF ST bY Want N aC)) (.i .i64 cN) (.b true)) λcM=>
 gB cM λx4=>
 bH x4 (
 bd (iw (.agg (bk SF ST bY Want N aC)) (.list Proof)) λiR=>
 gB iR λx5=>
 some [.b x5]) (
 some [.b false])) λlK=>
 gC lK λm23 abL=>
 gB m23 λx6=>
 gN abL<|
 some (.b x6)) (
 bH (decide (Kind=4)) (
 bd (
 bd (fp (.agg (bk SF ST bY Want N aC)) (.i .i64 Le) (.b true)) λmc=>
 gB mc λx7=>
 bH x7 (
 bd (iw (.agg (bk SF ST bY Want N aC)) (.list jF)) λsw=>
 gB sw λx8=>
 some [.b x8]) (
 some [.b false])) λuj=>
 gC uj λm24 Rs=>
 gB m24 λx9=>
 gN Rs<|
 some (.b x9)) (
 bH (decide (Kind=5)) (
 bd (fp (.agg (bk SF ST bY Want N aC)) (.i .i64 cN) (.b true)) λDv=>
 gB Dv λqE=>
 some (.b qE)) (
 some (.b false))))))
def JX:GT:=bN 31 (jN yA) lC
theorem JY:SG JX:=Dx pY [] [] 59 [] [] [(1,[2])] [] [(3,⟨[2,3],[],[],[(0,[(4,.sc (.k .b))])],[]⟩),(7,⟨[2,3],[],[],[(0,[(4,.sc (.k .b))])],[]⟩),(9,⟨[2,3],[],[],[(0,[(4,.sc (.k .b))])],[]⟩)] [] [] [] Tryz.func31 (by kernel_rfl) (cf (λ_ _=>by kernel_rfl))
def eZ (sA:MV):Option MV:=gL sA λDy=>
 cy Dy λlen=>
 cy Dy λgK=>
 du (decide ((len:Int)=(Dy.length:Int)/\(gK:Int)=(Dy.length:Int)))<|
 some (.clip Dy)
def uH:GT:=bN 140 (qS eZ) JX
theorem yB:SG uH:=sS JY [] 9 [] [] [] Tryz.func140 (by kernel_rfl) (eP (λ_=>by kernel_rfl))
def mV (sA view:MV):Option MV:=gA sA λcs=>
 Dw cs λF T=>
 gI .i64 view λlz=>
 bd (sH (.agg [.i .i64 F,.i .i64 T])) λrA=>
 gI .i64 rA λx=>
 du (!decide (x=0))<|
 some (.i .i64 (Int.tmod (imax lz 0) x))
def GW:GT:=bN 42 (jN mV) uH
theorem HA:SG GW:=sS yB [] 10 [] [] [] Tryz.func42 (by kernel_rfl) (cf (λ_ _=>by kernel_rfl))
def oc (rA:MV):Option MV:=gA rA λcs=>
 iu cs λBy fS Has View Value Proof=>
 bd (uF (.list Proof)) λbu=>
 gT bu λvs=>
 OY vs λx x1 x2=>
 bH (!x2) (
 some (.i .i64 (-1))) (
 some (.i .i64 x))
def Cv:GT:=bN 123 (qS oc) GW
theorem Em:SG Cv:=sS HA [] 16 [] [] [] Tryz.func123 (by kernel_rfl) (eP (λ_=>by kernel_rfl))
def yC (sA:MV):Option MV:=gA sA λcs=>
 Dw cs λF T=>
 bd (jT (.agg [.i .i64 F,.i .i64 T]) (.raw (.complex .f64 4607182418800017408 4607182418800017408))) λrA=>
 gI .i64 rA λx=>
 some (.i .i64 x)
def JZ:GT:=bN 124 (qS yC) Cv
theorem J0:SG JZ:=sS Em [] 5 [] [] [] Tryz.func124 (by kernel_rfl) (eP (λ_=>by kernel_rfl))
def pZ (a a1:MV):Option MV:=gA a λcs=>
 Dw cs λF T=>
 gL a1 λmu=>
 cy mu λlen=>
 bd (Loop (λpR=>
 gC pR λm2 C6=>
 gI .i64 m2 λx=>
 gC C6 λm3 C7=>
 gS m3 λx1=>
 gC C7 λm4 FG=>
 gI .i64 m4 λx2=>
 gN FG<|
 bH (decide (x2<(len:Int))) (
 idx mu x2 λy=>
 gA y λhU=>
 iu hU λBy fS Has View Value Proof=>
 bd (oc (.agg (gd By fS Has View Value Proof))) λrA=>
 gI .i64 rA λx3=>
 bd (
 bH (decide (x<x3)) (
 idx Proof 0 λy1=>
 gA y1 λqw=>
 mq qw λO2 fO bX=>
 some (0,[.i .i64 x3,.s bX])) (
 some (0,[.i .i64 x,.s x1]))) λp1=>
 du (sh p1.1 0)<|
 gC p1.2 λLz xn=>
 gI .i64 Lz λx4=>
 gC xn λT6 J3=>
 gS T6 λx5=>
 gN J3<|
 some (.inl [.i .i64 x4,.s x5,.i .i64 (cV .i64 (x2+1))])) (
 some (.inr (2,[.i .i64 x,.s x1])))) [.i .i64 (-1),.s ([]:List UInt8),.i .i64 0]) λp=>
 du (sh p.1 2)<|
 gC p.2 λXF sd=>
 gI .i64 XF λx6=>
 gC sd λFF n8=>
 gS FF λx7=>
 gN n8<|
 cy mu λgK=>
 bd (Loop (λuA=>
 GJ uA λes x8=>
 bH (decide (x8<(gK:Int))) (
 idx mu x8 λy2=>
 gA y2 λxJ=>
 iu xJ λBy2 XM Ek GP kh oU=>
 bd (
 bH Ek (
 some [.b (decide (x6<GP))]) (
 some [.b false])) λvs=>
 gC vs λm26 JF=>
 gB m26 λx9=>
 gN JF<|
 bd (
 bH x9 (
 some (0,[.list (ua (nL es ([.s kh]:List MV) (.i .i64 0)) (cE es ([.s kh]:List MV)) (.i .i64 (cV .i64 ((nU es ([.s kh]:List MV))+1))))])) (
 some (0,[.list es]))) λp3=>
 du (sh p3.1 0)<|
 gC p3.2 λm27 Rl=>
 gL m27 λes1=>
 gN Rl<|
 some (.inl [.list es1,.i .i64 (cV .i64 (x8+1))])) (
 some (.inr (4,[.list es])))) [.list ([]:List MV),.i .i64 0]) λp2=>
 du (sh p2.1 4)<|
 gC p2.2 λm28 JU=>
 gL m28 λes2=>
 gN JU<|
 bd (um (λm29=>QW m29 λkey n=>
 bd (yC (.agg [.i .i64 F,.i .i64 T])) λbu=>
 gI .i64 bu λqE=>
 bH (decide (qE<=n)) (
 some (.inr (1,[.s key,.b true]))) (
 some (.inl ()))) (
 some (6,[])) es2) λp4=>
 bH (sh p4.1 6) (
 gN p4.2<|
 some (.eu [.s x7,.b (decide (((-1):Int)<x6))])) (
 du (sh p4.1 1)<|
 gC p4.2 λm30 Ru=>
 gS m30 λsB=>
 gC Ru λm31 abM=>
 gB m31 λsQ=>
 gN abM<|
 some (.eu [.s sB,.b sQ]))
def En:GT:=bN 60 (jN pZ) JZ
theorem FO:SG En:=fnX J0 [] [] 70 [] [] [] [(7,[0,1,2,3,4,5,6,7])] [(13,⟨[2,6,7,11,13,35,36,37],[],[],[(0,[(48,.sc (.k .b))])],[]⟩)] [(14,⟨[2,6,7,13,35,36,37],[],[],[(0,[(11,.mp ⟨false,[.s],false⟩)])],[]⟩),(7,⟨[1,2,9,10,16,17,18],[],[],[(0,[(6,.sc (.k (.i .i64))),(7,.sc (.k .s))])],[]⟩)] [(17,⟨[2,6,7,11,56],[],[],[(1,[(4,.sc (.k .s)),(5,.sc (.k .b))]),(6,[])],[]⟩),(11,⟨[2,6,7,35,36],[],[(11,.mp ⟨false,[.s],false⟩),(37,.sc (.k (.i .i64)))],[(4,[(11,.mp ⟨false,[.s],false⟩)])],[]⟩),(3,⟨[1,2,16,17],[],[(6,.sc (.k (.i .i64))),(7,.sc (.k .s)),(18,.sc (.k (.i .i64)))],[(2,[(6,.sc (.k (.i .i64))),(7,.sc (.k .s))])],[]⟩)] [] Tryz.func60 (by kernel_rfl) (cf (λ_ _=>by kernel_rfl))
def xu (sA:MV):Option MV:=gA sA λcs=>
 Dw cs λF T=>
 bd (jT (.agg [.i .i64 F,.i .i64 T]) (.raw (.complex .f64 4611686018427387904 4611686018427387904))) λrA=>
 gI .i64 rA λx=>
 some (.i .i64 x)
def M8:GT:=bN 58 (qS xu) En
theorem LG:SG M8:=sS FO [] 5 [] [] [] Tryz.func58 (by kernel_rfl) (eP (λ_=>by kernel_rfl))
def uI (a a1:MV):Option MV:=gA a λcs=>
 Dw cs λF T=>
 gA a1 λhU=>
 iu hU λBy fS Has View Value Proof=>
 bd (
 bd (ll (.agg [.i .i64 F,.i .i64 T])) λrA=>
 gB rA λx=>
 bH (!x) (
 some [.b true]) (
 bH (decide (By<0)) (
 some [.b true]) (
 bd (sH (.agg [.i .i64 F,.i .i64 T])) λbu=>
 gI .i64 bu λx1=>
 bH (decide (x1<=By)) (
 some [.b true]) (
 bH (decide (fS<1)) (
 some [.b true]) (
 some [.b (decide ((100000:Int)<fS))]))))) λvs=>
 gC vs λm8 Az=>
 gB m8 λx2=>
 gN Az<|
 bH x2 (
 some (.b false)) (
 bd (
 bH (!Has) (
 bH (!decide (View=0)) (
 some [.b true]) (
 some [.b (!decide (Value=([]:List UInt8)))])) (
 some [.b false])) λlK=>
 gC lK λm9 uy=>
 gB m9 λx3=>
 gN uy<|
 bH x3 (
 some (.b false)) (
 bd (
 bH Has (
 bH (decide (View<0)) (
 some [.b true]) (
 bH (decide (fS<=View)) (
 some [.b true]) (
 some [.b (decide ((6000:Int)<(Value.length:Int)))]))) (
 some [.b false])) λuj=>
 gC uj λOV xl=>
 gB OV λx4=>
 gN xl<|
 bH x4 (
 some (.b false)) (
 bd (
 cy Proof λlen=>
 bH (decide ((len:Int)=0)) (
 some [.b true]) (
 bd (pc (.agg [.i .i64 F,.i .i64 T]) (.list Proof)) λcg=>
 gB cg λx5=>
 bH x5 (
 bd (oc (.agg (gd By fS Has View Value Proof))) λcM=>
 gI .i64 cM λx6=>
 some [.b (decide (x6<fS))]) (
 some [.b false]))) λvs3=>
 gC vs3 λLy xm=>
 gB Ly λx7=>
 gN xm<|
 some (.b x7))))
def J4:GT:=bN 107 (jN uI) M8
theorem J5:SG J4:=Dx LG [] [] 83 [] [] [] [(1,[0,1,2,3,4,5,6,7,8,9,10,11,12,13,14,15,16,17,18,19,20,21,22,23,24,25]),(7,[0,1,2,3,4,5,6,7,8,9,10,12,13,11,14,15,16,17])] [(7,⟨[2,3],[],[],[(0,[(4,.sc (.k .b))])],[]⟩),(5,⟨[2,3],[],[],[(0,[(45,.sc (.k .b))])],[]⟩),(3,⟨[2,3],[],[],[(0,[(31,.sc (.k .b))])],[]⟩),(1,⟨[2,3],[],[],[(0,[(5,.sc (.k .b))])],[]⟩)] [] [] [] Tryz.func107 (by kernel_rfl) (cf (λ_ _=>by kernel_rfl))
def tp (sA view lA:MV):Option MV:=gA sA λcs=>
 Dw cs λF T=>
 gI .i64 view λlz=>
 gL lA λM7=>
 bd (
 bd (ll (.agg [.i .i64 F,.i .i64 T])) λrA=>
 gB rA λx=>
 bH (!x) (
 some [.b true]) (
 cy M7 λlen=>
 bd (xu (.agg [.i .i64 F,.i .i64 T])) λbu=>
 gI .i64 bu λx1=>
 some [.b (!decide ((len:Int)=x1))])) λvs=>
 gC vs λm2 pR=>
 gB m2 λx2=>
 gN pR<|
 bH x2 (
 some (.b false)) (
 cy M7 λgK=>
 bd (Loop (λC6=>
 Dw C6 λlast x3=>
 bH (decide (x3<(gK:Int))) (
 idx M7 x3 λy=>
 gA y λhU=>
 iu hU λBy fS Has View Value Proof=>
 bd (
 bd (uI (.agg [.i .i64 F,.i .i64 T]) (.agg (gd By fS Has View Value Proof))) λcg=>
 gB cg λx4=>
 bH (!x4) (
 some [.b true]) (
 bH (!decide (fS=lz)) (
 some [.b true]) (
 some [.b (decide (By<=last))]))) λlK=>
 gC lK λLy mS=>
 gB Ly λx5=>
 gN mS<|
 bH x5 (
 some (.inr (1,[.b false]))) (
 some (.inl [.i .i64 By,.i .i64 (cV .i64 (x3+1))]))) (
 some (.inr (2,[])))) [.i .i64 (-1),.i .i64 0]) λp=>
 bH (sh p.1 2) (
 gN p.2<|
 some (.b true)) (
 du (sh p.1 1)<|
 gC p.2 λFE xk=>
 gB FE λx6=>
 gN xk<|
 some (.b x6)))
def Eo:GT:=bN 153 (D7 tp) J4
theorem FP:SG Eo:=sS J5 [] 45 [(7,⟨[1,3,7,9,20,21,22],[],[],[(0,[(41,.sc (.k .b))])],[]⟩),(1,⟨[1,2,3],[],[],[(0,[(19,.sc (.k .b))])],[]⟩)] [] [(5,⟨[1,3,20,21],[],[(7,.sc (.k (.i .i64))),(22,.sc (.k (.i .i64)))],[(1,[(6,.sc (.k .b))]),(2,[])],[]⟩)] Tryz.func153 (by kernel_rfl) (ot (λ_ _ _=>by kernel_rfl))
def qa (sA view lA value:MV):Option MV:=gA sA λcs=>
 Dw cs λF T=>
 gI .i64 view λlz=>
 gL lA λM7=>
 gS value λqY=>
 bd (tp (.agg [.i .i64 F,.i .i64 T]) (.i .i64 lz) (.list M7)) λrA=>
 gB rA λx=>
 bH (!x) (
 some (.b false)) (
 bd (pZ (.agg [.i .i64 F,.i .i64 T]) (.list M7)) λbu=>
 gT bu λvs=>
 gC vs λm2 pR=>
 gS m2 λx1=>
 gC pR λm3 C6=>
 gB m3 λx2=>
 gN C6<|
 bd (
 bH (!x2) (
 some [.b true]) (
 some [.b (decide (x1=qY))])) λlK=>
 gC lK λm4 C7=>
 gB m4 λx3=>
 gN C7<|
 some (.b x3))
def AL:GT:=bN 96 (TZ qa) Eo
theorem Db:SG AL:=sS FP [] 29 [(4,⟨[3,9,10],[],[],[(0,[(8,.sc (.k .b))])],[]⟩)] [] [] Tryz.func96 (by kernel_rfl) (D8 (λ_ _ _ _=>by kernel_rfl))
def nC (a view value gJ:MV):Option MV:=gA a λcs=>
 iz cs λSF ST Me View Has At Value Proof jg=>
 gI .i64 view λlz=>
 gS value λqY=>
 gL gJ λagM=>
 bd (
 bH (!decide (lz=View)) (
 some [.b true]) (
 bH Has (
 bH (decide (At=lz)) (
 some [.b true]) (
 some [.b (decide ((6000:Int)<(qY.length:Int)))])) (
 some [.b (decide ((6000:Int)<(qY.length:Int)))]))) λvs=>
 gC vs λm9 uy=>
 gB m9 λx=>
 gN uy<|
 bH x (
 some (.eu [.agg (df SF ST Me View Has At Value Proof jg),.agg [.i .i64 0,.i .i64 0,.s ([]:List UInt8)],.b false])) (
 bd (
 bH (decide (lz=0)) (
 cy agM λlen=>
 some [.b (decide ((len:Int)=0))]) (
 some [.b false])) λlK=>
 gC lK λOV xl=>
 gB OV λx1=>
 gN xl<|
 bd (
 bH x1 (
 some (0,[.i .i64 0,.i .i64 0,.i .i64 0,.i .i64 0,.b false,.i .i64 0,.s ([]:List UInt8),.list ([]:List MV),.list ([]:List MV),.i .i64 0,.i .i64 0,.s ([]:List UInt8)])) (
 bd (qa (.agg [.i .i64 SF,.i .i64 ST]) (.i .i64 lz) (.list agM) (.s qY)) λrA=>
 gB rA λx2=>
 bH (!x2) (
 some (1,[.i .i64 SF,.i .i64 ST,.i .i64 Me,.i .i64 View,.b Has,.i .i64 At,.s Value,.list Proof,.list jg,.i .i64 0,.i .i64 0,.s ([]:List UInt8),.b false])) (
 some (0,[.i .i64 0,.i .i64 0,.i .i64 0,.i .i64 0,.b false,.i .i64 0,.s ([]:List UInt8),.list ([]:List MV),.list ([]:List MV),.i .i64 0,.i .i64 0,.s ([]:List UInt8)])))) λp=>
 bH (sh p.1 1) (
 gC p.2 λLy xm=>
 gI .i64 Ly λx3=>
 gC xm λFE mS=>
 gI .i64 FE λx4=>
 gC mS λOW xk=>
 gI .i64 OW λx5=>
 gC xk λLz AB=>
 gI .i64 Lz λx6=>
 gC AB λT6 xn=>
 gB T6 λx7=>
 gC xn λXF J3=>
 gI .i64 XF λx8=>
 gC J3 λFF sd=>
 gS FF λx9=>
 gC sd λOX n8=>
 gL OX λqE=>
 gC n8 λm19 uA=>
 gL m19 λsB=>
 gC uA λXL uB=>
 gI .i64 XL λsQ=>
 OY uB λsG uY yt=>
 some (.eu [.agg (df x3 x4 x5 x6 x7 x8 x9 qE sB),.agg [.i .i64 sQ,.i .i64 sG,.s uY],.b yt])) (
 du (sh p.1 0)<|
 gC p.2 λm24 J6=>
 gI .i64 m24 λBI=>
 gC J6 λm25 abH=>
 gI .i64 m25 λxi=>
 gC abH λm26 abN=>
 gI .i64 m26 λLd=>
 gC abN λm27 Rk=>
 gI .i64 m27 λUa=>
 gC Rk λm28 JF=>
 gB m28 λXK=>
 gC JF λm29 Rl=>
 gI .i64 m29 λYL=>
 gC Rl λm30 JU=>
 gS m30 λVR=>
 gC JU λm31 Ru=>
 gL m31 λx23=>
 gC Ru λm32 abM=>
 gL m32 λx24=>
 mq abM λx25 x26 x27=>
 some (.eu [.agg (df SF ST Me View true lz qY Proof jg),.agg [.i .i64 Me,.i .i64 lz,.s qY],.b true])))
def xv:GT:=bN 43 (TZ nC) AL
theorem AM:SG xv:=Dx Db [] [] 62 [] [58] [(7,[4])] [(7,[0,1,2,3,4,5,6,7,8])] [(3,⟨[1,2,3,4,8,9],[],[],[(0,[(33,.sc (.k .b))])],[]⟩),(1,⟨[1,2,3,4,8,9],[],[],[(0,[(11,.sc (.k .b))])],[]⟩)] [(4,⟨[1,2,3,4],[],[],[(0,[(8,.box [.k (.i .i64),.k (.i .i64),.k (.i .i64),.k (.i .i64),.k .b,.k (.i .i64),.k .s,.k .l,.k .l]),(9,.box [.k (.i .i64),.k (.i .i64),.k .s])]),(1,[(8,.box [.k (.i .i64),.k (.i .i64),.k (.i .i64),.k (.i .i64),.k .b,.k (.i .i64),.k .s,.k .l,.k .l]),(9,.box [.k (.i .i64),.k (.i .i64),.k .s]),(10,.sc (.k .b))])],[]⟩)] [] [] Tryz.func43 (by kernel_rfl) (D8 (λ_ _ _ _=>by kernel_rfl))
def qc (x:MV):Option MV:=gI .i64 x λx1=>some (.b (!decide (x1=x1)))
def Ep:GT:=bN 162 (qS qc) xv
theorem FQ:SG Ep:=sS AM [] 6 [] [] [] Tryz.func162 (by kernel_rfl) (eP (λ_=>by kernel_rfl))
def mW (x y:MV):Option MV:=gI .i64 x λx1=>
 gI .i64 y λy1=>
 bd (qc (.i .i64 x1)) λrA=>
 gB rA λx2=>
 bd (qc (.i .i64 y1)) λbu=>
 gB bu λx3=>
 bH x2 (
 bH x3 (
 some (.i .i64 0)) (
 some (.i .i64 (-1)))) (
 bH x3 (
 some (.i .i64 1)) (
 bH (decide (x1<y1)) (
 some (.i .i64 (-1))) (
 bH (decide (y1<x1)) (
 some (.i .i64 1)) (
 some (.i .i64 0)))))
def AN:GT:=bN 106 (jN mW) Ep
theorem Dc:SG AN:=sS FQ [] 20 [] [] [] Tryz.func106 (by kernel_rfl) (cf (λ_ _=>by kernel_rfl))
def vP (x qz:MV):Option MV:=gA x λcs=>
 mq cs λBy View Value=>
 gI .i64 qz λUc=>
 bd (mW (.i .i64 By) (.i .i64 Uc)) λrA=>
 gI .i64 rA λx1=>
 some (.i .i64 x1)
def AO:GT:=bN 155 (jN vP) AN
theorem HB:SG AO:=sS Dc [] 9 [] [] [] Tryz.func155 (by kernel_rfl) (cf (λ_ _=>by kernel_rfl))
def dk:GT:=AO
theorem kj (x0 x1:MV):dk 155 [x0,x1]=vP x0 x1:=by kernel_rfl
def dC (x target cmp:MV):Option MV:=gL x λx1=>
 gI .i64 target λEr=>
 gR cmp λabO=>
 cy x1 λlen=>
 bd (Loop (λzu=>
 Dw zu λi j=>
 bH (decide (i<j)) (
 du (decide ((0:Int)<=1))<|
 idx x1 (cV .i64 (aaJ (cV .u64 (cV .i64 (i+j))) (2^min (AI 1) (BY .u64)))) λy=>
 gA y λcs=>
 mq cs λBy View Value=>
 Yw abO λfn cap=>
 du (!gv fn)<|
 bd (dk fn ([.agg [.i .i64 By,.i .i64 View,.s Value],.i .i64 Er]++cap)) λrA=>
 gI .i64 rA λx2=>
 bd (
 bH (decide (x2<0)) (
 some (0,[.i .i64 (cV .i64 ((cV .i64 (aaJ (cV .u64 (cV .i64 (i+j))) (2^min (AI 1) (BY .u64))))+1)),.i .i64 j])) (
 some (0,[.i .i64 i,.i .i64 (cV .i64 (aaJ (cV .u64 (cV .i64 (i+j))) (2^min (AI 1) (BY .u64))))]))) λp1=>
 du (sh p1.1 0)<|
 oII .i64 .i64 p1.2 λi1 j1=>
 some (.inl [.i .i64 i1,.i .i64 j1])) (
 some (.inr (2,[.i .i64 i])))) [.i .i64 0,.i .i64 (len:Int)]) λp=>
 du (sh p.1 2)<|
 gC p.2 λm7 Az=>
 gI .i64 m7 λi2=>
 gN Az<|
 bd (
 bH (decide (i2<(len:Int))) (
 idx x1 i2 λy1=>
 gA y1 λhU=>
 mq hU λO2 fO bX=>
 Yw abO λBN si=>
 du (!gv BN)<|
 bd (dk BN ([.agg [.i .i64 O2,.i .i64 fO,.s bX],.i .i64 Er]++si)) λbu=>
 gI .i64 bu λx3=>
 some [.i .i64 i2,.b (decide (x3=0))]) (
 some [.i .i64 i2,.b false])) λvs=>
 gC vs λLy mS=>
 gI .i64 Ly λx4=>
 gC mS λFE xk=>
 gB FE λx5=>
 gN xk<|
 some (.eu [.i .i64 x4,.b x5])
def iT:GT:=bN 154 (D7 dC) AO
theorem mw:SG iT:=sS HB [] 49 [(8,⟨[0,1,2,8,9],[],[],[(0,[(6,.sc (.k (.i .i64))),(7,.sc (.k .b))])],[]⟩)] [(6,⟨[0,1,2,8,11],[],[],[(0,[(9,.sc (.k (.i .i64))),(10,.sc (.k (.i .i64)))])],[]⟩)] [(3,⟨[0,1,2,8],[],[(9,.sc (.k (.i .i64))),(10,.sc (.k (.i .i64)))],[(2,[(9,.sc (.k (.i .i64)))])],[]⟩)] Tryz.func154 (by kernel_rfl) (ot (λ_ _ _=>by kernel_rfl))
def q0 (t a:MV):Option MV:=gA t λcs=>
 gC cs λm zu=>
 gL m λL=>
 gN zu<|
 gA a λhU=>
 mq hU λBy View Value=>
 bd (nz (.agg [.i .i64 By,.i .i64 View,.s Value])) λrA=>
 gB rA λx=>
 bH (!x) (
 some (.eu [.agg [.list L],.b false])) (
 bd (dC (.list L) (.i .i64 By) (.func 155 [])) λbu=>
 gT bu λvs=>
 gC vs λm4 C7=>
 gI .i64 m4 λx1=>
 gC C7 λm5 FG=>
 gB m5 λx2=>
 gN FG<|
 bd (
 bH x2 (
 idx L x1 λy=>
 gA y λqw=>
 mq qw λO2 fO bX=>
 some [.b (decide (View<=fO))]) (
 some [.b false])) λlK=>
 gC lK λm9 uy=>
 gB m9 λx3=>
 gN uy<|
 bH x3 (
 some (.eu [.agg [.list L],.b false])) (
 bd (jD 3 32 [.list L]) λcg=>
 gF cg λxs=>
 bd (
 bH x2 (
 idx xs x1 λy1=>
 gA y1 λxJ=>
 mq xJ λBy2 GP kh=>
 some (0,[.list (xs.set (AI x1) (.agg [.i .i64 By,.i .i64 View,.s Value]))])) (
 bd (pG 32 [.fresh xs,.i .i64 x1,.fresh ([.agg [.i .i64 By,.i .i64 View,.s Value]]:List MV)]) λcM=>
 gF cM λLB=>
 some (0,[.list LB]))) λp=>
 du (sh p.1 0)<|
 gC p.2 λOW xk=>
 gL OW λlA=>
 gN xk<|
 some (.eu [.agg [.list lA],.b true])))
def M9:GT:=bN 97 (jN q0) iT
theorem LH:SG M9:=Dx mw [] [] 49 [] [] [] [(4,[0,1,2,3,4,5,6,7,8,9,10,11])] [(4,⟨[2,3,4,6,7],[],[],[(0,[(32,.sc (.k .b))])],[45,46]⟩)] [(8,⟨[3,4,6],[],[],[(0,[(8,.sc (.own 36 58 false))])],[45,46]⟩)] [] [] Tryz.func97 (by kernel_rfl) (cf (λ_ _=>by kernel_rfl))
def oV (a a1:MV):Option MV:=gA a λcs=>
 gC cs λm zu=>
 gL m λL=>
 gN zu<|
 gI .i64 a1 λmu=>
 cy L λlen=>
 bd (Loop (λwz=>
 GJ wz λes x=>
 bH (decide (x<(len:Int))) (
 idx L x λy=>
 gA y λhU=>
 mq hU λBy View Value=>
 du (decide ((0:Int)<=(cE es ([.i .i64 View,.s Value]:List MV):Int)/\AI (cE es ([.i .i64 View,.s Value]:List MV):Int)<(nL es ([.i .i64 View,.s Value]:List MV) (.i .i64 0)).length))<|
 some (.inl [.list (ua (nL es ([.i .i64 View,.s Value]:List MV) (.i .i64 0)) (AI (cE es ([.i .i64 View,.s Value]:List MV):Int)) (.i .i64 (cV .i64 ((nU es ([.i .i64 View,.s Value]:List MV))+1)))),.i .i64 (cV .i64 (x+1))])) (
 some (.inr (2,[.list es])))) [.list ([]:List MV),.i .i64 0]) λp=>
 du (sh p.1 2)<|
 gC p.2 λm6 C9=>
 gL m6 λes1=>
 gN C9<|
 cy L λgK=>
 bd (Loop (λAz=>
 gC Az λm7 uy=>
 gI .i64 m7 λx1=>
 gC uy λm8 xl=>
 gS m8 λx2=>
 gC xl λm9 xm=>
 gB m9 λx3=>
 gC xm λOV mS=>
 gI .i64 OV λx4=>
 gN mS<|
 bH (decide (x4<(gK:Int))) (
 idx L x4 λy1=>
 gA y1 λqw=>
 mq qw λO2 fO bX=>
 bd (
 bH (decide ((1:Int)<=mu)) (
 bH (decide (mu<=(nU es1 ([.i .i64 fO,.s bX]:List MV)))) (
 some [.b (decide (x1<fO))]) (
 some [.b false])) (
 some [.b false])) λvs=>
 gC vs λLz J3=>
 gB Lz λx5=>
 gN J3<|
 bd (
 bH x5 (
 some (0,[.i .i64 fO,.s bX,.b true])) (
 some (0,[.i .i64 x1,.s x2,.b x3]))) λp2=>
 du (sh p2.1 0)<|
 aeP .i64 p2.2 λx6 x7 x8=>
 some (.inl [.i .i64 x6,.s x7,.b x8,.i .i64 (cV .i64 (x4+1))])) (
 some (.inr (4,[.i .i64 x1,.s x2,.b x3])))) [.i .i64 (-1),.s ([]:List UInt8),.b false,.i .i64 0]) λp1=>
 du (sh p1.1 4)<|
 aeP .i64 p1.2 λx9 qE sB=>
 bH (!sB) (
 some (.eu [.i .i64 0,.s ([]:List UInt8),.b false])) (
 some (.eu [.i .i64 x9,.s qE,.b true]))
def J7:GT:=bN 158 (jN oV) M9
theorem J8:SG J7:=Dx LH [] [] 71 [] [] [] [(5,[0,1,2,3,4,5,6,7,8,9,10]),(17,[0,1,2,3,4,5,6])] [(12,⟨[1,7,10,11,14,36,37,38],[],[],[(0,[(62,.sc (.k .b))])],[]⟩)] [(13,⟨[1,7,14,36,37,38],[],[],[(0,[(10,.box [.k (.i .i64),.k .s]),(11,.sc (.k .b))])],[]⟩)] [(9,⟨[1,7,36,37],[],[(10,.box [.k (.i .i64),.k .s]),(11,.sc (.k .b)),(38,.sc (.k (.i .i64)))],[(4,[(10,.box [.k (.i .i64),.k .s]),(11,.sc (.k .b))])],[]⟩),(3,⟨[1,2,17,18],[],[(7,.mp ⟨true,[.i .i64,.s],false⟩),(19,.sc (.k (.i .i64)))],[(2,[(7,.mp ⟨true,[.i .i64,.s],false⟩)])],[]⟩)] [] Tryz.func158 (by kernel_rfl) (cf (λ_ _=>by kernel_rfl))
def yD (sA t:MV):Option MV:=gA sA λcs=>
 Dw cs λF T=>
 gA t λhU=>
 gC hU λm2 pR=>
 gL m2 λL=>
 gN pR<|
 bd (oT (.agg [.i .i64 F,.i .i64 T])) λrA=>
 gI .i64 rA λx=>
 bd (oV (.agg [.list L]) (.i .i64 x)) λbu=>
 gT bu λvs=>
 OY vs λx1 x2 x3=>
 bH (!x3) (
 some (.eu [.list ([]:List MV),.b false])) (
 bd (pU (.agg [.list L]) (.i .i64 x1) (.s x2)) λcg=>
 gL cg λx4=>
 bd (oT (.agg [.i .i64 F,.i .i64 T])) λcM=>
 gI .i64 cM λx5=>
 cy x4 λlen=>
 du (decide ((0:Int)<=0/\(0:Int)<=x5/\x5<=(len:Int)))<|
 some (.eu [.list (OF (AI 0) (aau (AI x5) x4)),.b true]))
def J9:GT:=bN 98 (jN yD) J7
theorem Ka:SG J9:=Dx J8 [] [] 26 [] [] [] [(1,[0,1,2,3,4,5,6,7,8,9,10]),(4,[0,1,2,4,3,5,6,7,8])] [] [] [] [] Tryz.func98 (by kernel_rfl) (cf (λ_ _=>by kernel_rfl))
def rF (a a1:MV):Option MV:=gA a λcs=>
 iz cs λSF ST Me View Has At Value Proof jg=>
 gA a1 λhU=>
 mq hU λBy fO bX=>
 bd (
 bd (sH (.agg [.i .i64 SF,.i .i64 ST])) λrA=>
 gI .i64 rA λx=>
 bH (decide (x<=By)) (
 some [.b true]) (
 some [.b (!decide (fO=View))])) λvs=>
 gC vs λFE mS=>
 gB FE λx1=>
 gN mS<|
 bH x1 (
 some (.eu [.agg (df SF ST Me View Has At Value Proof jg),.list ([]:List MV),.b false])) (
 bd (q0 (.agg [.list jg]) (.agg [.i .i64 By,.i .i64 fO,.s bX])) λbu=>
 gT bu λlK=>
 gC lK λOW xk=>
 gA OW λqw=>
 gC qw λLz AB=>
 gL Lz λL=>
 gN AB<|
 gC xk λT6 xn=>
 gB T6 λx2=>
 gN xn<|
 bd (yD (.agg [.i .i64 SF,.i .i64 ST]) (.agg [.list L])) λcg=>
 gT cg λuj=>
 gC uj λXF J3=>
 gL XF λx3=>
 gC J3 λFF sd=>
 gB FF λx4=>
 gN sd<|
 bd (uF (.list Proof)) λcM=>
 gT cM λvs3=>
 OY vs3 λx5 x6 x7=>
 bd (
 bd (nz (.agg [.i .i64 By,.i .i64 fO,.s bX])) λiR=>
 gB iR λx8=>
 bH (!x8) (
 some [.b true]) (
 bH (!x4) (
 some [.b true]) (
 some [.b (decide (View<=x5))]))) λvs4=>
 gC vs4 λm21 Ed=>
 gB m21 λx9=>
 gN Ed<|
 bH x9 (
 some (.eu [.agg (df SF ST Me View Has At Value Proof L),.list ([]:List MV),.b false])) (
 some (.eu [.agg (df SF ST Me View Has At Value x3 L),.list x3,.b true])))
def Cw:GT:=bN 44 (jN rF) J9
theorem Es:SG Cw:=Dx Ka [] [] 67 [] [] [] [(1,[0,1,2,3,4,5,6,7,8,9,10,11,12])] [(6,⟨[2,3,4,7,8,9],[],[],[(0,[(61,.sc (.k .b))])],[]⟩),(1,⟨[2,3,4],[],[],[(0,[(24,.sc (.k .b))])],[]⟩)] [] [] [] Tryz.func44 (by kernel_rfl) (cf (λ_ _=>by kernel_rfl))
def BO (sA:MV):Option MV:=gA sA λcs=>
 Dw cs λF T=>
 bd (jT (.agg [.i .i64 F,.i .i64 T]) (.raw (.complex .f64 4613937818241073152 4607182418800017408))) λrA=>
 gI .i64 rA λx=>
 some (.i .i64 x)
def tK:GT:=bN 28 (qS BO) Cw
theorem LI:SG tK:=sS Es [] 5 [] [] [] Tryz.func28 (by kernel_rfl) (eP (λ_=>by kernel_rfl))
def qd:Ctx:=O0 tK [(1,1002001)] 54 [] [] [] [(1,[0,1,2,3,4,5,6,7,8,9,10,11,12,13,14,15,16,17,18,19]),(3,[0,1,2,3,4,5,6,7,8,9,10])] [(1,⟨[1,3,4,6,1002001],[],[],[(0,[(32,.sc (.k .b))])],[]⟩)] [] [] []
def gu (lA:MV)(t:List MV)(a:MV)(b6:MV):Option MV:=gA lA λcs=>
 ik cs λSF ST gp gq qF bw Value=>
 gA a λhU=>
 mq hU λBy View bX=>
 gI .i64 b6 λRv=>
 ik t λzw zx eD eE lm sW kh=>
 bd (
 bH bw (
 some [.b true]) (
 bH (decide (By<0)) (
 some [.b true]) (
 bd (sH (.agg [.i .i64 SF,.i .i64 ST])) λrA=>
 gI .i64 rA λx=>
 bH (decide (x<=By)) (
 some [.b true]) (
 bd (nz (.agg [.i .i64 By,.i .i64 View,.s bX])) λbu=>
 gB bu λx1=>
 some [.b (!x1)])))) λvs=>
 gC vs λFF sd=>
 gB FF λx2=>
 gN sd<|
 bH x2 (
 some (.ew (.eu [.b false,.s ([]:List UInt8)]) (cY zw zx eD eE lm sW kh))) (
 bd (q0 (.agg [.list eD]) (.agg [.i .i64 By,.i .i64 View,.s bX])) λcg=>
 gT cg λlK=>
 gC lK λOX n8=>
 gA OX λqw=>
 gC qw λm19 uA=>
 gL m19 λL=>
 gN uA<|
 gC n8 λXL uB=>
 gB XL λx3=>
 gN uB<|
 bd (oV (.agg [.list L]) (.i .i64 Rv)) λcM=>
 gT cM λuj=>
 OY uj λx4 x5 x6=>
 some (.ew (.eu [.b x6,.s x5]) (cY zw zx L eE lm sW kh)))
theorem wE (lA:MV)(t:List MV)(a:MV)(b6:MV):zZ qd [] 1 M0 Tryz.f101 [lA,.cell (.func 2 t),a,b6]=gu lA t a b6:=by kernel_rfl
def qe:Ctx:=O0 tK [(1,1003001)] 54 [] [] [] [(1,[0,1,2,3,4,5,6,7,8,9,10,11,12,13,14,15,16,17,18,19]),(3,[0,1,2,3,4,5,6,7,8,9,10])] [(1,⟨[1,3,4,6,1003001],[],[],[(0,[(32,.sc (.k .b))])],[]⟩)] [] [] []
def gw (lA:MV)(t:List MV)(a:MV)(b6:MV):Option MV:=gA lA λcs=>
 ik cs λSF ST gp gq qF bw Value=>
 gA a λhU=>
 mq hU λBy View bX=>
 gI .i64 b6 λRv=>
 ik t λzw zx eD eE lm sW kh=>
 bd (
 bH bw (
 some [.b true]) (
 bH (decide (By<0)) (
 some [.b true]) (
 bd (sH (.agg [.i .i64 SF,.i .i64 ST])) λrA=>
 gI .i64 rA λx=>
 bH (decide (x<=By)) (
 some [.b true]) (
 bd (nz (.agg [.i .i64 By,.i .i64 View,.s bX])) λbu=>
 gB bu λx1=>
 some [.b (!x1)])))) λvs=>
 gC vs λFF sd=>
 gB FF λx2=>
 gN sd<|
 bH x2 (
 some (.ew (.eu [.b false,.s ([]:List UInt8)]) (cY zw zx eD eE lm sW kh))) (
 bd (q0 (.agg [.list eE]) (.agg [.i .i64 By,.i .i64 View,.s bX])) λcg=>
 gT cg λlK=>
 gC lK λOX n8=>
 gA OX λqw=>
 gC qw λm19 uA=>
 gL m19 λL=>
 gN uA<|
 gC n8 λXL uB=>
 gB XL λx3=>
 gN uB<|
 bd (oV (.agg [.list L]) (.i .i64 Rv)) λcM=>
 gT cM λuj=>
 OY uj λx4 x5 x6=>
 some (.ew (.eu [.b x6,.s x5]) (cY zw zx eD L lm sW kh)))
theorem wF (lA:MV)(t:List MV)(a:MV)(b6:MV):zZ qe [] 1 M0 Tryz.f101 [lA,.cell (.func 3 t),a,b6]=gw lA t a b6:=by kernel_rfl
def qf:Ctx:=O0 tK [(1,1004001)] 54 [] [] [] [(1,[0,1,2,3,4,5,6,7,8,9,10,11,12,13,14,15,16,17,18,19]),(3,[0,1,2,3,4,5,6,7,8,9,10])] [(1,⟨[1,3,4,6,1004001],[],[],[(0,[(32,.sc (.k .b))])],[]⟩)] [] [] []
def gx (lA:MV)(t:List MV)(a:MV)(b6:MV):Option MV:=gA lA λcs=>
 ik cs λSF ST gp gq qF bw Value=>
 gA a λhU=>
 mq hU λBy View bX=>
 gI .i64 b6 λRv=>
 ik t λzw zx eD eE lm sW kh=>
 bd (
 bH bw (
 some [.b true]) (
 bH (decide (By<0)) (
 some [.b true]) (
 bd (sH (.agg [.i .i64 SF,.i .i64 ST])) λrA=>
 gI .i64 rA λx=>
 bH (decide (x<=By)) (
 some [.b true]) (
 bd (nz (.agg [.i .i64 By,.i .i64 View,.s bX])) λbu=>
 gB bu λx1=>
 some [.b (!x1)])))) λvs=>
 gC vs λFF sd=>
 gB FF λx2=>
 gN sd<|
 bH x2 (
 some (.ew (.eu [.b false,.s ([]:List UInt8)]) (cY zw zx eD eE lm sW kh))) (
 bd (q0 (.agg [.list lm]) (.agg [.i .i64 By,.i .i64 View,.s bX])) λcg=>
 gT cg λlK=>
 gC lK λOX n8=>
 gA OX λqw=>
 gC qw λm19 uA=>
 gL m19 λL=>
 gN uA<|
 gC n8 λXL uB=>
 gB XL λx3=>
 gN uB<|
 bd (oV (.agg [.list L]) (.i .i64 Rv)) λcM=>
 gT cM λuj=>
 OY uj λx4 x5 x6=>
 some (.ew (.eu [.b x6,.s x5]) (cY zw zx eD eE L sW kh)))
theorem wG (lA:MV)(t:List MV)(a:MV)(b6:MV):zZ qf [] 1 M0 Tryz.f101 [lA,.cell (.func 4 t),a,b6]=gx lA t a b6:=by kernel_rfl
abbrev mX:List MV->Option MV:=λms=>match ms with|[a0,.cell (.func off a1),a2,a3]=>(match sh off 2 with|true=>gu a0 a1 a2 a3|false=>(match sh off 3 with|true=>gw a0 a1 a2 a3|false=>(match sh off 4 with|true=>gx a0 a1 a2 a3|false=>none)))|_=>none
theorem xw {ms:List MV}{r:MV}(h:mX ms=some r): ∃c':Ctx,Ap cx c'/\c'.g=tK/\MG c' 101 Tryz.f101 []=true/\zZ c' [] 1 M0 Tryz.f101 ms=some r:=by
 unfold mX at h;split at h
 ·rename_i a0 off a1 a2 a3;cases cU:sh off 2 with
  |true=>have:=AT cU;subst this;exact ⟨qd,⟨rfl,rfl,rfl,rfl,rfl,rfl,rfl,rfl,rfl⟩,rfl,by kernel_rfl,(wE _ _ _ _).trans h⟩
  |false=>
  rw [cU] at h;simp only at h;cases P6:sh off 3 with
  |true=>have:=AT P6;subst this;exact ⟨qe,⟨rfl,rfl,rfl,rfl,rfl,rfl,rfl,rfl,rfl⟩,rfl,by kernel_rfl,(wF _ _ _ _).trans h⟩
  |false=>
  rw [P6] at h;simp only at h;cases ho4:sh off 4 with
  |true=>have:=AT ho4;subst this;exact ⟨qf,⟨rfl,rfl,rfl,rfl,rfl,rfl,rfl,rfl,rfl⟩,rfl,by kernel_rfl,(wG _ _ _ _).trans h⟩
  |false=>
  rw [ho4] at h;simp only at h;cases h
 ·cases h
def sj:GT:=bN 101 mX tK
theorem wH:SG sj:=LI.fnC (pos:=1) (ks:=M0) (dJ:=[]) oS Jv JB M2 wv BJ Tryz.func101 (by kernel_rfl) (λ_=>rfl) xw
def nD (lA a:MV):Option MV:=gA lA λcs=>
 ik cs λSF ST gp gq qF bw Value=>
 gA a λhU=>
 mq hU λBy View bX=>
 bd (BO (.agg [.i .i64 SF,.i .i64 ST])) λrA=>
 gI .i64 rA λx=>
 bd (gu (.agg (cY SF ST gp gq qF bw Value)) (cY SF ST gp gq qF bw Value) (.agg [.i .i64 By,.i .i64 View,.s bX]) (.i .i64 x)) λbu=>
 gW bu λx1 ls=>
 ik ls λzw zx eD eE lm sW kh=>
 gT x1 λvs=>
 gC vs λFF sd=>
 gB FF λx2=>
 gC sd λOX n8=>
 gS OX λx3=>
 gN n8<|
 bd (
 bH x2 (
 some (0,(cY zw zx eD eE lm true x3))) (
 some (0,(cY zw zx eD eE lm sW kh)))) λp=>
 du (sh p.1 0)<|
 Ay .i64 .i64 p.2 λM7 lA2 lA3 lA4 lA5 lA6 lA7=>
 some (.agg (cY M7 lA2 lA3 lA4 lA5 lA6 lA7))
def xx:GT:=bN 45 (jN nD) sj
theorem AP:SG xx:=Dx wH [] [] 22 [] [] [] [(1,[0,1,2,3,4,5,6,7,8,9,10,11])] [] [(3,⟨[4,6],[],[],[(0,[(2,.box [.k (.i .i64),.k (.i .i64),.k .l,.k .l,.k .l,.k .b,.k .s])])],[]⟩)] [] [] Tryz.func45 (by kernel_rfl) (cf (λ_ _=>by kernel_rfl))
def mh (lA qz p:MV):Option MV:=gA lA λcs=>
 ik cs λSF ST gp gq qF bw Value=>
 gI .i64 qz λUc=>
 gL p λp1=>
 bd (pc (.agg [.i .i64 SF,.i .i64 ST]) (.list p1)) λrA=>
 gB rA λx=>
 bH (!x) (
 some (.agg (cY SF ST gp gq qF bw Value))) (
 bd (uF (.list p1)) λbu=>
 gT bu λvs=>
 OY vs λx1 x2 x3=>
 bd (oT (.agg [.i .i64 SF,.i .i64 ST])) λcg=>
 gI .i64 cg λx4=>
 bd (gw (.agg (cY SF ST gp gq qF bw Value)) (cY SF ST gp gq qF bw Value) (.agg [.i .i64 Uc,.i .i64 x1,.s x2]) (.i .i64 x4)) λcM=>
 gW cM λx5 ls=>
 ik ls λzw zx eD eE lm sW bX=>
 gT x5 λlK=>
 gC lK λFF sd=>
 gB FF λx6=>
 gC sd λOX n8=>
 gS OX λx7=>
 gN n8<|
 bd (
 bH x6 (
 some (0,(cY zw zx eD eE lm true x7))) (
 some (0,(cY zw zx eD eE lm sW bX)))) λp2=>
 du (sh p2.1 0)<|
 Ay .i64 .i64 p2.2 λM7 lA2 lA3 lA4 lA5 lA6 lA7=>
 some (.agg (cY M7 lA2 lA3 lA4 lA5 lA6 lA7)))
def vQ:GT:=bN 46 (D7 mh) xx
theorem zE:SG vQ:=Dx AP [] [] 42 [] [] [] [(4,[0,1,2,3,4,5,6,7,8,9,10,11,12,13,14])] [] [(6,⟨[6,11],[],[],[(0,[(3,.box [.k (.i .i64),.k (.i .i64),.k .l,.k .l,.k .l,.k .b,.k .s])])],[]⟩)] [] [] Tryz.func46 (by kernel_rfl) (ot (λ_ _ _=>by kernel_rfl))
def oJ (x qz:MV):Option MV:=gA x λcs=>
 iu cs λBy fS Has View Value Proof=>
 gI .i64 qz λUc=>
 bd (mW (.i .i64 By) (.i .i64 Uc)) λrA=>
 gI .i64 rA λx1=>
 some (.i .i64 x1)
def sI:GT:=bN 105 (jN oJ) vQ
theorem B8:SG sI:=sS zE [] 9 [] [] [] Tryz.func105 (by kernel_rfl) (cf (λ_ _=>by kernel_rfl))
def dm:GT:=sI
theorem jk (x0 x1:MV):dm 105 [x0,x1]=oJ x0 x1:=by kernel_rfl
def dD (x target cmp:MV):Option MV:=gL x λx1=>
 gI .i64 target λEr=>
 gR cmp λabO=>
 cy x1 λlen=>
 bd (Loop (λzu=>
 Dw zu λi j=>
 bH (decide (i<j)) (
 du (decide ((0:Int)<=1))<|
 idx x1 (cV .i64 (aaJ (cV .u64 (cV .i64 (i+j))) (2^min (AI 1) (BY .u64)))) λy=>
 gA y λcs=>
 iu cs λBy fS Has View Value Proof=>
 Yw abO λfn cap=>
 du (!gv fn)<|
 bd (dm fn ([.agg (gd By fS Has View Value Proof),.i .i64 Er]++cap)) λrA=>
 gI .i64 rA λx2=>
 bd (
 bH (decide (x2<0)) (
 some (0,[.i .i64 (cV .i64 ((cV .i64 (aaJ (cV .u64 (cV .i64 (i+j))) (2^min (AI 1) (BY .u64))))+1)),.i .i64 j])) (
 some (0,[.i .i64 i,.i .i64 (cV .i64 (aaJ (cV .u64 (cV .i64 (i+j))) (2^min (AI 1) (BY .u64))))]))) λp1=>
 du (sh p1.1 0)<|
 oII .i64 .i64 p1.2 λi1 j1=>
 some (.inl [.i .i64 i1,.i .i64 j1])) (
 some (.inr (2,[.i .i64 i])))) [.i .i64 0,.i .i64 (len:Int)]) λp=>
 du (sh p.1 2)<|
 gC p.2 λOV xm=>
 gI .i64 OV λi2=>
 gN xm<|
 bd (
 bH (decide (i2<(len:Int))) (
 idx x1 i2 λy1=>
 gA y1 λhU=>
 iu hU λO2 XM Ek fO bX oU=>
 Yw abO λBN si=>
 du (!gv BN)<|
 bd (dm BN ([.agg (gd O2 XM Ek fO bX oU),.i .i64 Er]++si)) λbu=>
 gI .i64 bu λx3=>
 some [.i .i64 i2,.b (decide (x3=0))]) (
 some [.i .i64 i2,.b false])) λvs=>
 gC vs λFF n8=>
 gI .i64 FF λx4=>
 gC n8 λOX uA=>
 gB OX λx5=>
 gN uA<|
 some (.eu [.i .i64 x4,.b x5])
def iU:GT:=bN 104 (D7 dD) sI
theorem my:SG iU:=sS B8 [] 49 [(8,⟨[0,1,2,8,9],[],[],[(0,[(6,.sc (.k (.i .i64))),(7,.sc (.k .b))])],[]⟩)] [(6,⟨[0,1,2,8,11],[],[],[(0,[(9,.sc (.k (.i .i64))),(10,.sc (.k (.i .i64)))])],[]⟩)] [(3,⟨[0,1,2,8],[],[(9,.sc (.k (.i .i64))),(10,.sc (.k (.i .i64)))],[(2,[(9,.sc (.k (.i .i64)))])],[]⟩)] Tryz.func104 (by kernel_rfl) (ot (λ_ _ _=>by kernel_rfl))
def rG (n:List MV)(sA:MV)(i:MV)(rA:MV):Option MV:=gA sA λcs=>
 Dw cs λF T=>
 gI .i64 i λi1=>
 gA rA λhU=>
 iu hU λBy fS Has View Value Proof=>
 ba n λAD AE AF eI mT AG ei ej cZ AH AJ bQ bR ek fV eo dq et=>
 bd (dD (.list dq) (.i .i64 By) (.func 105 [])) λbu=>
 gT bu λvs=>
 gC vs λm26 abN=>
 gI .i64 m26 λx=>
 gC abN λm27 Rk=>
 gB m27 λx1=>
 gN Rk<|
 bd (
 bH (!x1) (
 bH (decide (eI=fS)) (
 bd (mV (.agg [.i .i64 F,.i .i64 T]) (.i .i64 fS)) λcg=>
 gI .i64 cg λx2=>
 bH (decide (x2=i1)) (
 bd (uI (.agg [.i .i64 F,.i .i64 T]) (.agg (gd By fS Has View Value Proof))) λcM=>
 gB cM λx3=>
 some [.b x3]) (
 some [.b false])) (
 some [.b false])) (
 some [.b false])) λlK=>
 gC lK λm28 JF=>
 gB m28 λx4=>
 gN JF<|
 bd (
 bH x4 (
 both (
 bd (jD 6 72 [.list dq]) λiR=>
 gF iR λxs=>
 bd (pG 72 [.fresh xs,.i .i64 x,.fresh ([.agg (gd By fS Has View Value Proof)]:List MV)]) λmc=>
 gF mc λLB=>
 some (0,(aw AD AE AF eI mT AG ei ej cZ AH AJ bQ bR ek fV eo LB et))) (
 bd (jD 6 72 [.list dq]) λsw=>
 gF sw λRn=>
 bd (pG 72 [.fresh Rn,.i .i64 x,.fresh ([.agg (gd By fS Has View Value Proof)]:List MV)]) λDv=>
 gF Dv λVQ=>
 some (0,(aw AD AE AF eI mT AG ei ej cZ AH AJ bQ bR ek fV eo VQ et)))) (
 some (0,(aw AD AE AF eI mT AG ei ej cZ AH AJ bQ bR ek fV eo dq et)))) λp=>
 du (sh p.1 0)<|
 fR .i64 .i64 .i64 .i64 .i64 .i64 .i64 .i64 p.2 λx5 x6 x7 x8 x9 qE sB sQ sG uY yt BI xi Ld Ua XK YL VR=>
 some (.ew (.eu []) (aw x5 x6 x7 x8 x9 qE sB sQ sG uY yt BI xi Ld Ua XK YL VR))
def Cx:GT:=bN 47 (cl4 rG) iU
theorem Et:SG Cx:=fnC my 0 agD [] [(0,1000000)] 57 [54] [] [] [(1,[0,1,2,3,4,5,6,7,8,9,10,11]),(2,[0,1,2,3,4,5,6,7,8,9,10,11,12,13,14,15,17,16,18,19,20,21,22,23,24]),(3,[0,1,2,3,4,6,7,5,8,9,10,11,12,0,1,2,3,4,6,7,8,5,9,10,11,12,13,5,8])] [(2,⟨[0,2,5,7,8,9,1000000],[],[],[(0,[(44,.sc (.k .b))])],[50,53]⟩)] [(3,⟨[0,7,8],[],[],[(0,[(1000000,.box [.k (.i .i64),.k (.i .i64),.k (.i .i64),.k (.i .i64),.k .b,.k (.i .i64),.k .s,.k .l,.k .l,.k (.i .i64),.k (.i .i64),.k .l,.k .l,.k .l,.k .b,.k .s,.k .l,.k (.i .i64)])])],[50,53]⟩)] [] [] Tryz.func47 (by kernel_rfl) (by kernel_rfl) (abt λ_ _ _ _=>by kernel_rfl)
def BP (sA:MV):Option MV:=gA sA λcs=>
 Dw cs λF T=>
 bd (jT (.agg [.i .i64 F,.i .i64 T]) (.raw (.complex .f64 4607182418800017408 0))) λrA=>
 gI .i64 rA λx=>
 some (.i .i64 x)
def Na:GT:=bN 109 (qS BP) Cx
theorem LJ:SG Na:=sS Et [] 5 [] [] [] Tryz.func109 (by kernel_rfl) (eP (λ_=>by kernel_rfl))
def tq (lA qz value:MV):Option MV:=gA lA λcs=>
 ik cs λSF ST gp gq qF bw Value=>
 gI .i64 qz λUc=>
 gS value λqY=>
 bd (BP (.agg [.i .i64 SF,.i .i64 ST])) λrA=>
 gI .i64 rA λx=>
 bd (gx (.agg (cY SF ST gp gq qF bw Value)) (cY SF ST gp gq qF bw Value) (.agg [.i .i64 Uc,.i .i64 0,.s qY]) (.i .i64 x)) λbu=>
 gW bu λx1 ls=>
 ik ls λzw zx eD eE lm sW bX=>
 gT x1 λvs=>
 gC vs λLz AB=>
 gB Lz λx2=>
 gC AB λT6 xn=>
 gS T6 λx3=>
 gN xn<|
 bd (
 bH x2 (
 some (0,(cY zw zx eD eE lm true x3))) (
 some (0,(cY zw zx eD eE lm sW bX)))) λp=>
 du (sh p.1 0)<|
 Ay .i64 .i64 p.2 λM7 lA2 lA3 lA4 lA5 lA6 lA7=>
 some (.agg (cY M7 lA2 lA3 lA4 lA5 lA6 lA7))
def Eu:GT:=bN 48 (D7 tq) Na
theorem FR:SG Eu:=Dx LJ [] [] 26 [] [] [] [(1,[0,1,2,3,4,5,6,7,8,9,10,11,12,13])] [] [(3,⟨[6,8],[],[],[(0,[(3,.box [.k (.i .i64),.k (.i .i64),.k .l,.k .l,.k .l,.k .b,.k .s])])],[]⟩)] [] [] Tryz.func48 (by kernel_rfl) (ot (λ_ _ _=>by kernel_rfl))
def yE (a a1 a2 a3:MV):Option MV:=gA a λcs=>
 Dw cs λF T=>
 gI .i64 a1 λmu=>
 gA a2 λhU=>
 ba hU λAD AE AF eI mT AG ei ej cZ AH AJ bQ bR ek fV eo dq et=>
 gA a3 λqw=>
 eC qw λKind cN View Value fC jh eJ dH Proof Le wC wD oa ki jF=>
 bd (
 bH (decide (Kind=1)) (
 bd (mV (.agg [.i .i64 F,.i .i64 T]) (.i .i64 View)) λrA=>
 gI .i64 rA λx=>
 bH (!decide (cN=x)) (
 some (2,(eh AD AE AF eI mT AG ei ej cZ AH AJ bQ bR ek fV eo dq et ([]:List MV)))) (
 bd (nC (.agg (df AD AE AF eI mT AG ei ej cZ)) (.i .i64 View) (.s Value) (.list fC)) λbu=>
 gT bu λvs=>
 gC vs λm35 ann=>
 gA m35 λxJ=>
 iz xJ λSF ST Me fO Has At bX oU jg=>
 gC ann λm45 abD=>
 gA m45 λcs4=>
 mq cs4 λBy GP kh=>
 gC abD λm49 anp=>
 gB m49 λx1=>
 gN anp<|
 bd (
 bH x1 (
 cy ([.agg (aF 2 0 0 ([]:List UInt8) ([]:List MV) By GP kh ([]:List MV) 0 0 false 0 ([]:List UInt8) ([]:List MV))]:List MV) λlen=>
 du (decide (len *192<=2^46))<|
 some (0,[.list ([.agg (aF 2 0 0 ([]:List UInt8) ([]:List MV) By GP kh ([]:List MV) 0 0 false 0 ([]:List UInt8) ([]:List MV))]:List MV)])) (
 some (0,[.list ([]:List MV)]))) λp1=>
 du (sh p1.1 0)<|
 gC p1.2 λm50 anq=>
 gL m50 λxs=>
 gN anq<|
 some (0,(eh SF ST Me fO Has At bX oU jg AH AJ bQ bR ek fV eo dq et xs)))) (
 bd (
 bH (decide (Kind=2)) (
 bd (rF (.agg (df AD AE AF eI mT AG ei ej cZ)) (.agg [.i .i64 jh,.i .i64 eJ,.s dH])) λcg=>
 gT cg λlK=>
 gC lK λm51 anr=>
 gA m51 λcs5=>
 iz cs5 λzw zx Me1 ans Ek At1 aiM aiN aeV=>
 gC anr λm61 abP=>
 gL m61 λx2=>
 gC abP λm62 abQ=>
 gB m62 λx3=>
 gN abQ<|
 bd (
 bH x3 (
 cy ([.agg (aF 3 mu 0 ([]:List UInt8) ([]:List MV) 0 0 ([]:List UInt8) x2 0 0 false 0 ([]:List UInt8) ([]:List MV))]:List MV) λgK=>
 du (decide (gK *192<=2^46))<|
 some (0,[.list ([.agg (aF 3 mu 0 ([]:List UInt8) ([]:List MV) 0 0 ([]:List UInt8) x2 0 0 false 0 ([]:List UInt8) ([]:List MV))]:List MV)])) (
 some (0,[.list ([]:List MV)]))) λp3=>
 du (sh p3.1 0)<|
 gC p3.2 λm63 abR=>
 gL m63 λLB=>
 gN abR<|
 bd (nD (.agg (cY AH AJ bQ bR ek fV eo)) (.agg [.i .i64 jh,.i .i64 eJ,.s dH])) λcM=>
 gA cM λcs6=>
 ik cs6 λSF2 ST2 gp gq qF bw aiQ=>
 some (0,(eh zw zx Me1 ans Ek At1 aiM aiN aeV SF2 ST2 gp gq qF bw aiQ dq et LB))) (
 bd (
 bH (decide (Kind=3)) (
 bd (mh (.agg (cY AH AJ bQ bR ek fV eo)) (.i .i64 cN) (.list Proof)) λiR=>
 gA iR λcs7=>
 ik cs7 λSF3 ST3 eD eE lm sW aiT=>
 some (0,(aw AD AE AF eI mT AG ei ej cZ SF3 ST3 eD eE lm sW aiT dq et))) (
 bd (
 bH (decide (Kind=4)) (
 bd (rG (aw AD AE AF eI mT AG ei ej cZ AH AJ bQ bR ek fV eo dq et) (.agg [.i .i64 F,.i .i64 T]) (.i .i64 mu) (.agg (gd Le wC wD oa ki jF))) λmc=>
 gW mc λx4 ls=>
 ba ls λKb Kc Ke uJ AQ Kf qg qh mY Kg Kh jm jn qi uK oK Ki Kj=>
 some (0,(aw Kb Kc Ke uJ AQ Kf qg qh mY Kg Kh jm jn qi uK oK Ki Kj))) (
 bd (
 bH (decide (Kind=5)) (
 bd (tq (.agg (cY AH AJ bQ bR ek fV eo)) (.i .i64 cN) (.s Value)) λsw=>
 gA sw λcs8=>
 ik cs8 λSF4 ST4 XN XO aiU ant aiV=>
 some (0,(aw AD AE AF eI mT AG ei ej cZ SF4 ST4 XN XO aiU ant aiV dq et))) (
 some (0,(aw AD AE AF eI mT AG ei ej cZ AH AJ bQ bR ek fV eo dq et)))) λp6=>
 du (sh p6.1 0)<|
 fR .i64 .i64 .i64 .i64 .i64 .i64 .i64 .i64 p6.2 λx5 x6 x7 x8 x9 qE sB sQ sG uY yt BI xi Ld Ua XK YL VR=>
 some (0,(aw x5 x6 x7 x8 x9 qE sB sQ sG uY yt BI xi Ld Ua XK YL VR)))) λp5=>
 du (sh p5.1 0)<|
 fR .i64 .i64 .i64 .i64 .i64 .i64 .i64 .i64 p5.2 λx23 x24 x25 x26 x27 x28 x29 x30 x31 x32 x33 x34 x35 x36 x37 x38 x39 x40=>
 some (0,(aw x23 x24 x25 x26 x27 x28 x29 x30 x31 x32 x33 x34 x35 x36 x37 x38 x39 x40)))) λp4=>
 du (sh p4.1 0)<|
 fR .i64 .i64 .i64 .i64 .i64 .i64 .i64 .i64 p4.2 λx41 x42 x43 x44 x45 x46 x47 x48 x49 x50 x51 x52 x53 x54 x55 x56 x57 x58=>
 some (0,(eh x41 x42 x43 x44 x45 x46 x47 x48 x49 x50 x51 x52 x53 x54 x55 x56 x57 x58 ([]:List MV))))) λp2=>
 du (sh p2.1 0)<|
 jR .i64 .i64 .i64 .i64 .i64 .i64 .i64 .i64 p2.2 λx59 x60 x61 x62 x63 x64 x65 x66 x67 x68 x69 x70 x71 x72 x73 x74 x75 x76 Rn=>
 some (0,(eh x59 x60 x61 x62 x63 x64 x65 x66 x67 x68 x69 x70 x71 x72 x73 x74 x75 x76 Rn)))) λp=>
 bH (sh p.1 2) (
 jR .i64 .i64 .i64 .i64 .i64 .i64 .i64 .i64 p.2 λx77 x78 x79 x80 x81 x82 x83 x84 x85 x86 x87 x88 x89 x90 x91 x92 x93 x94 VQ=>
 bd (
 bH x91 (
 some [.b (!fV)]) (
 some [.b false])) λuj=>
 gC uj λarL aiW=>
 gB arL λx95=>
 gN aiW<|
 bd (
 bH x95 (
 cy VQ λr9=>
 cy ([.agg (aF 5 mu 0 x92 ([]:List MV) 0 0 ([]:List UInt8) ([]:List MV) 0 0 false 0 ([]:List UInt8) ([]:List MV))]:List MV) λC8=>
 du (decide ((r9+C8) *192<=2^46))<|
 some (0,[.list (VQ++([.agg (aF 5 mu 0 x92 ([]:List MV) 0 0 ([]:List UInt8) ([]:List MV) 0 0 false 0 ([]:List UInt8) ([]:List MV))]:List MV))])) (
 some (0,[.list VQ]))) λp9=>
 du (sh p9.1 0)<|
 gC p9.2 λarM aiX=>
 gL arM λxs4=>
 gN aiX<|
 some (.eu [.agg (aw x77 x78 x79 x80 x81 x82 x83 x84 x85 x86 x87 x88 x89 x90 x91 x92 x93 x94),.list xs4])) (
 du (sh p.1 0)<|
 jR .i64 .i64 .i64 .i64 .i64 .i64 .i64 .i64 p.2 λx96 x97 x98 x99 arN arO arP arQ arR arS arT arU arV arW anu aiY arX arY xs5=>
 bd (
 bH anu (
 some [.b (!fV)]) (
 some [.b false])) λvs3=>
 gC vs3 λarZ aiZ=>
 gB arZ λar0=>
 gN aiZ<|
 bd (
 bH ar0 (
 cy xs5 λJD=>
 cy ([.agg (aF 5 mu 0 aiY ([]:List MV) 0 0 ([]:List UInt8) ([]:List MV) 0 0 false 0 ([]:List UInt8) ([]:List MV))]:List MV) λFJ=>
 du (decide ((JD+FJ) *192<=2^46))<|
 some (0,[.list (xs5++([.agg (aF 5 mu 0 aiY ([]:List MV) 0 0 ([]:List UInt8) ([]:List MV) 0 0 false 0 ([]:List UInt8) ([]:List MV))]:List MV))])) (
 some (0,[.list xs5]))) λp10=>
 du (sh p10.1 0)<|
 gC p10.2 λar1 ai0=>
 gL ar1 λxs6=>
 gN ai0<|
 some (.eu [.agg (aw x96 x97 x98 x99 arN arO arP arQ arR arS arT arU arV arW anu aiY arX arY),.list xs6]))
def Kk:GT:=bN 15 (TZ yE) Eu
theorem Kl:SG Kk:=Dx FR [] [] 118 [47,66,114] [] [] [(5,[0,1,2,3,4,5,6])] [(22,⟨[1,6,8,10,12],[48,67],[],[(0,[(107,.sc (.k .b))])],[48,67]⟩)] [(23,⟨[1,6,8],[],[],[(0,[(12,.sc (.own 48 62 true))])],[48,67]⟩),(9,⟨[1,6,8,10,13],[],[],[(0,[(12,.sc (.own 48 62 true))])],[48,67]⟩),(14,⟨[1,6,7,8,10,14],[],[],[(0,[(12,.sc (.own 67 62 true))])],[48,67]⟩),(21,⟨[1,7,8,10,12],[],[],[(0,[(6,.box [.k (.i .i64),.k (.i .i64),.k (.i .i64),.k (.i .i64),.k .b,.k (.i .i64),.k .s,.k .l,.k .l,.k (.i .i64),.k (.i .i64),.k .l,.k .l,.k .l,.k .b,.k .s,.k .l,.k (.i .i64)])])],[48,67]⟩),(19,⟨[1,4,7,8,10,12,19],[],[],[(0,[(6,.box [.k (.i .i64),.k (.i .i64),.k (.i .i64),.k (.i .i64),.k .b,.k (.i .i64),.k .s,.k .l,.k .l,.k (.i .i64),.k (.i .i64),.k .l,.k .l,.k .l,.k .b,.k .s,.k .l,.k (.i .i64)])])],[48,67]⟩),(17,⟨[1,4,7,8,10,12,19],[],[],[(0,[(6,.box [.k (.i .i64),.k (.i .i64),.k (.i .i64),.k (.i .i64),.k .b,.k (.i .i64),.k .s,.k .l,.k .l,.k (.i .i64),.k (.i .i64),.k .l,.k .l,.k .l,.k .b,.k .s,.k .l,.k (.i .i64)])])],[48,67]⟩),(11,⟨[1,4,7,8,10,19],[],[],[(0,[(6,.box [.k (.i .i64),.k (.i .i64),.k (.i .i64),.k (.i .i64),.k .b,.k (.i .i64),.k .s,.k .l,.k .l,.k (.i .i64),.k (.i .i64),.k .l,.k .l,.k .l,.k .b,.k .s,.k .l,.k (.i .i64)]),(12,.sc (.own 67 62 true))])],[48,67]⟩),(5,⟨[1,4,7,8,10,19],[],[],[(0,[(6,.box [.k (.i .i64),.k (.i .i64),.k (.i .i64),.k (.i .i64),.k .b,.k (.i .i64),.k .s,.k .l,.k .l,.k (.i .i64),.k (.i .i64),.k .l,.k .l,.k .l,.k .b,.k .s,.k .l,.k (.i .i64)]),(12,.sc (.own 48 62 true))]),(2,[(6,.box [.k (.i .i64),.k (.i .i64),.k (.i .i64),.k (.i .i64),.k .b,.k (.i .i64),.k .s,.k .l,.k .l,.k (.i .i64),.k (.i .i64),.k .l,.k .l,.k .l,.k .b,.k .s,.k .l,.k (.i .i64)]),(12,.sc (.own 48 62 true))])],[48,67]⟩)] [] [] Tryz.func15 (by kernel_rfl) (D8 (λ_ _ _ _=>by kernel_rfl))
def rH (a:MV):Option MV:=gA a λcs=>
 iz cs λSF ST Me View Has At Value Proof jg=>
 some (.agg (gd Me View Has At Value Proof))
def Cy:GT:=bN 121 (qS rH) Kk
theorem Ew:SG Cy:=sS Kl [] 16 [] [] [] Tryz.func121 (by kernel_rfl) (eP (λ_=>by kernel_rfl))
def qj (a view:MV):Option MV:=gA a λcs=>
 iz cs λSF ST Me View Has At Value Proof jg=>
 gI .i64 view λlz=>
 bd (
 bH (decide (lz<=View)) (
 some [.b true]) (
 some [.b (decide ((100000:Int)<lz))])) λvs=>
 gC vs λm9 uy=>
 gB m9 λx=>
 gN uy<|
 bH x (
 some (.eu [.agg (df SF ST Me View Has At Value Proof jg),.agg (gd 0 0 false 0 ([]:List UInt8) ([]:List MV)),.b false])) (
 bd (rH (.agg (df SF ST Me lz Has At Value Proof ([]:List MV)))) λrA=>
 gA rA λhU=>
 iu hU λBy fS Ek fO bX oU=>
 some (.eu [.agg (df SF ST Me lz Has At Value Proof ([]:List MV)),.agg (gd By fS Ek fO bX oU),.b true]))
def AR:GT:=bN 56 (jN qj) Cy
theorem Dd:SG AR:=Dx Ew [] [] 24 [] [] [] [(4,[0,1,2,3,4,5])] [(1,⟨[1,2,4,5],[],[],[(0,[(14,.sc (.k .b))])],[]⟩)] [] [] [] Tryz.func56 (by kernel_rfl) (cf (λ_ _=>by kernel_rfl))
def vR (x_ x_1 n view:MV):Option MV:=gA x_ λcs=>
 Dw cs λF T=>
 gI .i64 x_1 λauk=>
 gA n λhU=>
 ba hU λAD AE AF eI mT AG ei ej cZ AH AJ bQ bR ek fV eo dq et=>
 gI .i64 view λlz=>
 bd (qj (.agg (df AD AE AF eI mT AG ei ej cZ)) (.i .i64 lz)) λrA=>
 gT rA λvs=>
 gC vs λXL uB=>
 gA XL λqw=>
 iz qw λSF ST Me View Has At Value Proof jg=>
 gC uB λm30 JU=>
 gA m30 λxJ=>
 iu xJ λBy fS Ek fO bX oU=>
 gC JU λm37 abw=>
 gB m37 λx=>
 gN abw<|
 bH (!x) (
 some (.eu [.agg (aw AD AE AF eI mT AG ei ej cZ AH AJ bQ bR ek fV eo dq et),.list ([]:List MV)])) (
 both (
 some (.eu [.agg (aw SF ST Me View Has At Value Proof jg AH AJ bQ bR ek fV eo ([]:List MV) et),.list ([.agg (aF 4 0 0 ([]:List UInt8) ([]:List MV) 0 0 ([]:List UInt8) ([]:List MV) By fS Ek fO bX oU)]:List MV)])) (
 some (.eu [.agg (aw SF ST Me View Has At Value Proof jg AH AJ bQ bR ek fV eo ([]:List MV) et),.list ([.agg (aF 4 0 0 ([]:List UInt8) ([]:List MV) 0 0 ([]:List UInt8) ([]:List MV) By fS Ek fO bX oU)]:List MV)])))
def GX:GT:=bN 18 (TZ vR) AR
theorem HC:SG GX:=Dx Dd [] [] 31 [30] [28] [(2,[11])] [(5,[0,1,2,3,4,5,0,1,2,4,3,5,6,3,4])] [] [] [] [] Tryz.func18 (by kernel_rfl) (D8 (λ_ _ _ _=>by kernel_rfl))
def yF (a a1 a2 a3:MV):Option MV:=gA a λcs=>
 Dw cs λF T=>
 gI .i64 a1 λmu=>
 gA a2 λhU=>
 ba hU λAD AE AF eI mT AG ei ej cZ AH AJ bQ bR ek fV eo dq et=>
 gS a3 λanv=>
 bd (xu (.agg [.i .i64 F,.i .i64 T])) λrA=>
 gI .i64 rA λx=>
 bd (
 bd (mV (.agg [.i .i64 F,.i .i64 T]) (.i .i64 eI)) λbu=>
 gI .i64 bu λx1=>
 bH (!decide (x1=mu)) (
 some [.b true]) (
 some [.b (decide (eI<=et))])) λvs=>
 gC vs λXL uB=>
 gB XL λx2=>
 gN uB<|
 bH x2 (
 some (.eu [.agg (aw AD AE AF eI mT AG ei ej cZ AH AJ bQ bR ek fV eo dq et),.list ([]:List MV)])) (
 bd (
 bH (decide ((0:Int)<eI)) (
 cy dq λlen=>
 some [.b (decide ((len:Int)<x))]) (
 some [.b false])) λlK=>
 gC lK λm21 Ed=>
 gB m21 λx3=>
 gN Ed<|
 bH x3 (
 some (.eu [.agg (aw AD AE AF eI mT AG ei ej cZ AH AJ bQ bR ek fV eo dq et),.list ([]:List MV)])) (
 bd (
 bH (decide ((0:Int)<eI)) (
 cy dq λgK=>
 du (decide ((0:Int)<=0/\(0:Int)<=x/\x<=(gK:Int)))<|
 bd (jD 6 72 [.list (OF (AI 0) (aau (AI x) dq))]) λcg=>
 gF cg λxs=>
 bd (pZ (.agg [.i .i64 F,.i .i64 T]) (.list xs)) λcM=>
 gT cM λuj=>
 gC uj λm22 abL=>
 gS m22 λx4=>
 gC abL λm23 Rs=>
 gB m23 λx5=>
 gN Rs<|
 bd (
 bH x5 (
 some (0,(aF 1 mu eI x4 xs 0 0 ([]:List UInt8) ([]:List MV) 0 0 false 0 ([]:List UInt8) ([]:List MV)))) (
 some (0,(aF 1 mu eI anv xs 0 0 ([]:List UInt8) ([]:List MV) 0 0 false 0 ([]:List UInt8) ([]:List MV))))) λp1=>
 du (sh p1.1 0)<|
 ny .i64 .i64 .i64 .i64 .i64 .i64 .i64 .i64 p1.2 λx6 x7 x8 x9 LB qE sB sQ sG uY yt BI xi Ld Ua=>
 some (0,(aF x6 x7 x8 x9 LB qE sB sQ sG uY yt BI xi Ld Ua))) (
 some (0,(aF 1 mu eI anv ([]:List MV) 0 0 ([]:List UInt8) ([]:List MV) 0 0 false 0 ([]:List UInt8) ([]:List MV))))) λp=>
 du (sh p.1 0)<|
 ny .i64 .i64 .i64 .i64 .i64 .i64 .i64 .i64 p.2 λXK YL VR x23 Rn x24 x25 x26 x27 x28 x29 x30 x31 x32 x33=>
 both (
 some (.eu [.agg (aw AD AE AF eI mT AG ei ej cZ AH AJ bQ bR ek fV eo dq VR),.list ([.agg (aF XK YL VR x23 Rn x24 x25 x26 x27 x28 x29 x30 x31 x32 x33)]:List MV)])) (
 some (.eu [.agg (aw AD AE AF eI mT AG ei ej cZ AH AJ bQ bR ek fV eo dq VR),.list ([.agg (aF XK YL VR x23 Rn x24 x25 x26 x27 x28 x29 x30 x31 x32 x33)]:List MV)]))))
def Km:GT:=bN 20 (TZ yF) GX
theorem Kn:SG Km:=Dx HC [] [] 75 [74] [73] [(12,[11])] [(13,[0,1,2,3,4,0,1,3,2,4,5,2,3])] [(5,⟨[4,6,8,10,11],[],[],[(0,[(37,.sc (.k .b))])],[57]⟩),(3,⟨[1,4,6,8,10,11],[],[],[(0,[(22,.sc (.k .b))])],[57]⟩)] [(11,⟨[6,8,12],[],[],[(0,[(11,.box [.k (.i .i64),.k (.i .i64),.k (.i .i64),.k .s,.own 57 60 true,.k (.i .i64),.k (.i .i64),.k .s,.k .l,.k (.i .i64),.k (.i .i64),.k .b,.k (.i .i64),.k .s,.k .l])])],[57]⟩),(8,⟨[4,6,8,10],[],[],[(0,[(11,.box [.k (.i .i64),.k (.i .i64),.k (.i .i64),.k .s,.own 57 60 true,.k (.i .i64),.k (.i .i64),.k .s,.k .l,.k (.i .i64),.k (.i .i64),.k .b,.k (.i .i64),.k .s,.k .l])])],[57]⟩)] [] [] Tryz.func20 (by kernel_rfl) (D8 (λ_ _ _ _=>by kernel_rfl))
def nE (c i:MV):Option MV:=gA c λcs=>
 dj cs λSF ST bY Want N aC=>
 gI .i64 i λi1=>
 bd (
 bd (fp (.agg (bk SF ST bY Want N aC)) (.i .i64 i1) (.b false)) λrA=>
 gB rA λx=>
 bH (!x) (
 some [.b true]) (
 idx N i1 λy=>
 gA y λhU=>
 ba hU λAD AE AF eI mT AG ei ej cZ AH AJ bQ bR ek fV eo dq et=>
 some [.b (!fV)])) λvs=>
 gC vs λm24 J6=>
 gB m24 λx1=>
 gN J6<|
 bH x1 (
 some (.eu [.s ([]:List UInt8),.b false])) (
 idx N i1 λy1=>
 gA y1 λqw=>
 ba qw λKb Kc Ke uJ AQ Kf qg qh mY Kg Kh jm jn qi uK oK Ki Kj=>
 some (.eu [.s oK,.b true]))
def tu:GT:=bN 30 (jN nE) Km
theorem FU:SG tu:=sS Kn [] 27 [(1,⟨[1,2],[],[],[(0,[(19,.sc (.k .b))])],[]⟩)] [] [] Tryz.func30 (by kernel_rfl) (cf (λ_ _=>by kernel_rfl))
def Ex:Ctx:=O0 tu [(1,1000001)] 14 [] [] [] [(0,[0,1,2,3,4,5,6,7,8,9,10])] [] [] [] []
def sm (i:MV)(c:List MV)(c1:MV):Option MV:=gI .i64 i λi1=>
 gP c1 λcs=>
 dj cs λSF ST bY Want N aC=>
 gC c λm6 JC=>
 gI .i64 m6 λx=>
 gN JC<|
 idx N i1 λy=>
 gA y λhU=>
 ba hU λAD AE AF eI mT AG ei ej cZ AH AJ bQ bR ek fV eo dq et=>
 some (.ew (.eu []) [.i .i64 (imax x (cV .i64 (eI+1)))])
theorem Ko (i:MV)(c:List MV)(c1:MV):zZ Ex [[],[.i .i64,.i .i64,.l,.l,.l,.l]] 1 VO Tryz.f89 [i,.cell (.func 0 c),c1]=sm i c c1:=by kernel_rfl
abbrev AS:List MV->Option MV:=λms=>match ms with|[a0,.cell (.func off a1),a2]=>(match sh off 0 with|true=>sm a0 a1 a2|false=>none)|_=>none
theorem Kp {ms:List MV}{r:MV}(h:AS ms=some r): ∃c':Ctx,Ap cx c'/\c'.g=tu/\MG c' 89 Tryz.f89 [[],[.i .i64,.i .i64,.l,.l,.l,.l]]=true/\zZ c' [[],[.i .i64,.i .i64,.l,.l,.l,.l]] 1 VO Tryz.f89 ms=some r:=by
 unfold AS at h;split at h
 ·rename_i a0 off a1 a2;cases ho0:sh off 0 with
  |true=>have:=AT ho0;subst this;exact ⟨Ex,⟨rfl,rfl,rfl,rfl,rfl,rfl,rfl,rfl,rfl⟩,rfl,by kernel_rfl,(Ko _ _ _).trans h⟩
  |false=>
  rw [ho0] at h;simp only at h;cases h
 ·cases h
def GY:GT:=bN 89 AS tu
theorem HD:SG GY:=FU.fnC (pos:=1) (ks:=VO) (dJ:=[[],[.i .i64,.i .i64,.l,.l,.l,.l]]) oS Jv JB M2 wv BJ Tryz.func89 (by kernel_rfl) (λ_=>rfl) Kp
def gW2:GT:=aeG 72 GY
theorem abS:dL Tryz.prog VP gW2:=HD.alt abp
def qk (c:List MV)(lA:MV):Option MV:=gL lA λM7=>
 dj c λSF ST bY Want N aC=>
 cy M7 λlen=>
 bd (Loop (λJC=>
 gC JC λm6 C9=>
 gI .i64 m6 λx=>
 dj C9 λx1 x2 x3 x4 xs x5=>
 bH (decide (x<(len:Int))) (
 idx M7 x λy=>
 gA y λcs=>
 eC cs λKind cN View Value fC jh eJ dH Proof Le wC wD oa ki jF=>
 cy x5 λgK=>
 bd (
 bH (decide ((gK:Int)<400)) (
 both (
 bd (eZ (.list x5)) λrA=>
 gCl rA λLB=>
 du (pu 15 LB)<|
 cy LB λr9=>
 cy ([.agg (aF Kind cN View Value fC jh eJ dH Proof Le wC wD oa ki jF)]:List MV) λC8=>
 du (decide (0<C8/\(r9+C8) *192<=2^46))<|
 some (0,(bk x1 x2 x3 x4 xs (LB++([.agg (aF Kind cN View Value fC jh eJ dH Proof Le wC wD oa ki jF)]:List MV))))) (
 bd (eZ (.list x5)) λbu=>
 gCl bu λRn=>
 du (pu 15 Rn)<|
 cy Rn λJD=>
 cy ([.agg (aF Kind cN View Value fC jh eJ dH Proof Le wC wD oa ki jF)]:List MV) λFJ=>
 du (decide (0<FJ/\(JD+FJ) *192<=2^46))<|
 some (0,(bk x1 x2 x3 x4 xs (Rn++([.agg (aF Kind cN View Value fC jh eJ dH Proof Le wC wD oa ki jF)]:List MV)))))) (
 some (0,(bk x1 x2 x3 x4 xs x5)))) λp1=>
 du (sh p1.1 0)<|
 lk .i64 .i64 p1.2 λx6 x7 x8 x9 VQ qE=>
 some (.inl [.i .i64 (cV .i64 (x+1)),.i .i64 x6,.i .i64 x7,.list x8,.list x9,.list VQ,.list qE])) (
 some (.inr (2,(bk x1 x2 x3 x4 xs x5))))) [.i .i64 0,.i .i64 SF,.i .i64 ST,.list bY,.list Want,.list N,.list aC]) λp=>
 du (sh p.1 2)<|
 lk .i64 .i64 p.2 λsB sQ sG uY xs4 yt=>
 some (.ew (.eu []) (bk sB sQ sG uY xs4 yt))
def AU:GT:=bN 72 (cl2 qk) gW2
theorem De:dL Tryz.prog VP AU:=abq abS 0 agF [] [(0,1000000)] 30 [25,26] [] [] [(4,[0,1,2,3,4,6,5,7,8,9,10,11,0,1,2,3,4,6,7,5,8,9,10,11,12,5,7])] [] [(4,⟨[0,5,6,7,8],[],[],[(0,[(1000000,.box [.k (.i .i64),.k (.i .i64),.k .l,.k .l,.own 2000004 40 false,.k .l])])],[]⟩)] [(1,⟨[0,6,7],[],[(8,.sc (.k (.i .i64))),(1000000,.box [.k (.i .i64),.k (.i .i64),.k .l,.k .l,.own 2000004 40 false,.k .l])],[(2,[(1000000,.box [.k (.i .i64),.k (.i .i64),.k .l,.k .l,.own 2000004 40 false,.k .l])])],[]⟩)] [] Tryz.func72 (by kernel_rfl) (by kernel_rfl) (T8 λ_ _=>by kernel_rfl)
def lP (c:List MV)(i:MV)(n:MV)(said:MV):Option MV:=gI .i64 i λi1=>
 gA n λcs=>
 ba cs λAD AE AF eI mT AG ei ej cZ AH AJ bQ bR ek fV eo dq et=>
 gL said λanw=>
 dj c λSF ST bY Want N aC=>
 idx N i1 λy=>
 gA y λhU=>
 ba hU λKb Kc Ke uJ AQ Kf qg qh mY Kg Kh jm jn qi uK oK Ki Kj=>
 bd (qk (bk SF ST bY Want (N.set (AI i1) (.agg (aw AD AE AF eI mT AG ei ej cZ AH AJ bQ bR ek fV eo dq et))) aC) (.list anw)) λrA=>
 gW rA λx ls=>
 dj ls λzw zx FV xy N1 xz=>
 some (.ew (.eu []) (bk zw zx FV xy N1 xz))
def Cz:GT:=bN 141 (cl4 lP) AU
theorem Ey:dL Tryz.prog VP Cz:=abq De 0 GL [] [(0,1000000)] 18 [] [] [] [(1,[0,1,2,3,4,5,6,7])] [] [] [] [] Tryz.func141 (by kernel_rfl) (by kernel_rfl) (abt λ_ _ _ _=>by kernel_rfl)
def jV (c:List MV)(i:MV)(m:MV):Option MV:=gI .i64 i λi1=>
 gA m λcs=>
 eC cs λKind cN View Value fC jh eJ dH Proof Le wC wD oa ki jF=>
 dj c λSF ST bY Want N aC=>
 idx N i1 λy=>
 gA y λhU=>
 ba hU λAD AE AF eI mT AG ei ej cZ AH AJ bQ bR ek fV eo dq et=>
 bd (yE (.agg [.i .i64 SF,.i .i64 ST]) (.i .i64 i1) (.agg (aw AD AE AF eI mT AG ei ej cZ AH AJ bQ bR ek fV eo dq et)) (.agg (aF Kind cN View Value fC jh eJ dH Proof Le wC wD oa ki jF))) λrA=>
 gT rA λvs=>
 gC vs λm40 Ro=>
 gA m40 λqw=>
 ba qw λKb Kc Ke uJ AQ Kf qg qh mY Kg Kh jm jn qi uK oK Ki Kj=>
 gC Ro λm59 Rw=>
 gL m59 λx=>
 gN Rw<|
 bd (lP (bk SF ST bY Want N aC) (.i .i64 i1) (.agg (aw Kb Kc Ke uJ AQ Kf qg qh mY Kg Kh jm jn qi uK oK Ki Kj)) (.list x)) λbu=>
 gW bu λx1 ls=>
 dj ls λzw zx FV xy N1 xz=>
 some (.ew (.eu []) (bk zw zx FV xy N1 xz))
def vT:GT:=bN 75 (cl3 jV) Cz
theorem zF:dL Tryz.prog VP vT:=abq Ey 0 GL [] [(0,1000000)] 30 [] [] [] [(1,[0,1,2,3,4,5,6,7,8,9,10,11,12,13,14,15,16,17,18,19])] [] [] [] [] Tryz.func75 (by kernel_rfl) (by kernel_rfl) (abr λ_ _ _=>by kernel_rfl)
def lD (c:List MV)(i:MV)(view:MV):Option MV:=gI .i64 i λi1=>
 gI .i64 view λlz=>
 dj c λSF ST bY Want N aC=>
 idx N i1 λy=>
 gA y λcs=>
 ba cs λAD AE AF eI mT AG ei ej cZ AH AJ bQ bR ek fV eo dq et=>
 bd (vR (.agg [.i .i64 SF,.i .i64 ST]) (.i .i64 i1) (.agg (aw AD AE AF eI mT AG ei ej cZ AH AJ bQ bR ek fV eo dq et)) (.i .i64 lz)) λrA=>
 gT rA λvs=>
 gC vs λm24 J6=>
 gA m24 λhU=>
 ba hU λKb Kc Ke uJ AQ Kf qg qh mY Kg Kh jm jn qi uK oK Ki Kj=>
 gC J6 λm43 Rq=>
 gL m43 λx=>
 gN Rq<|
 bd (lP (bk SF ST bY Want N aC) (.i .i64 i1) (.agg (aw Kb Kc Ke uJ AQ Kf qg qh mY Kg Kh jm jn qi uK oK Ki Kj)) (.list x)) λbu=>
 gW bu λx1 ls=>
 dj ls λzw zx FV xy N1 xz=>
 some (.ew (.eu []) (bk zw zx FV xy N1 xz))
def zk:GT:=bN 76 (cl3 lD) vT
theorem B9:dL Tryz.prog VP zk:=abq zF 0 GL [] [(0,1000000)] 30 [] [] [] [(0,[0,1,2,3,4,5,6,7,8,9,10,11,12,13,14,15,16,17,18,19])] [] [] [] [] Tryz.func76 (by kernel_rfl) (by kernel_rfl) (abr λ_ _ _=>by kernel_rfl)
def mZ (c:List MV)(i:MV):Option MV:=gI .i64 i λi1=>
 dj c λSF ST bY Want N aC=>
 idx N i1 λy=>
 gA y λcs=>
 ba cs λAD AE AF eI mT AG ei ej cZ AH AJ bQ bR ek fV eo dq et=>
 idx Want i1 λy1=>
 gS y1 λx=>
 bd (yF (.agg [.i .i64 SF,.i .i64 ST]) (.i .i64 i1) (.agg (aw AD AE AF eI mT AG ei ej cZ AH AJ bQ bR ek fV eo dq et)) (.s x)) λrA=>
 gT rA λvs=>
 gC vs λm24 J6=>
 gA m24 λhU=>
 ba hU λKb Kc Ke uJ AQ Kf qg qh mY Kg Kh jm jn qi uK oK Ki Kj=>
 gC J6 λm43 Rq=>
 gL m43 λx1=>
 gN Rq<|
 bd (lP (bk SF ST bY Want N aC) (.i .i64 i1) (.agg (aw Kb Kc Ke uJ AQ Kf qg qh mY Kg Kh jm jn qi uK oK Ki Kj)) (.list x1)) λbu=>
 gW bu λx2 ls=>
 dj ls λzw zx FV xy N1 xz=>
 some (.ew (.eu []) (bk zw zx FV xy N1 xz))
def AV:GT:=bN 77 (cl2 mZ) zk
theorem Df:dL Tryz.prog VP AV:=abq B9 0 GL [] [(0,1000000)] 34 [] [] [] [(0,[0,1,2,3,4,5,6,7,8,9,10,11,12,13,14,15,16,17,18,19,20,21,22,23,24,25])] [] [] [] [] Tryz.func77 (by kernel_rfl) (by kernel_rfl) (T8 λ_ _=>by kernel_rfl)
def gW1:GT:=aeG 72 AV
theorem abT:SG gW1:=Df.alt aiI
def rI (c:List MV)(lA:MV):Option MV:=gL lA λM7=>
 dj c λSF ST bY Want N aC=>
 cy M7 λlen=>
 bd (Loop (λJC=>
 gC JC λm6 C9=>
 gI .i64 m6 λx=>
 dj C9 λx1 x2 x3 x4 x5 x6=>
 bH (decide (x<(len:Int))) (
 idx M7 x λy=>
 gA y λcs=>
 eC cs λKind cN View Value fC jh eJ dH Proof Le wC wD oa ki jF=>
 cy x6 λgK=>
 bd (
 bH (decide ((gK:Int)<400)) (
 both (
 bd (eZ (.list x6)) λrA=>
 gCl rA λxs=>
 du (pu 15 xs)<|
 cy xs λr9=>
 cy ([.agg (aF Kind cN View Value fC jh eJ dH Proof Le wC wD oa ki jF)]:List MV) λC8=>
 du (decide (0<C8/\(r9+C8) *192<=2^46))<|
 some (0,(bk x1 x2 x3 x4 x5 (xs++([.agg (aF Kind cN View Value fC jh eJ dH Proof Le wC wD oa ki jF)]:List MV))))) (
 bd (eZ (.list x6)) λbu=>
 gCl bu λLB=>
 du (pu 15 LB)<|
 cy LB λJD=>
 cy ([.agg (aF Kind cN View Value fC jh eJ dH Proof Le wC wD oa ki jF)]:List MV) λFJ=>
 du (decide (0<FJ/\(JD+FJ) *192<=2^46))<|
 some (0,(bk x1 x2 x3 x4 x5 (LB++([.agg (aF Kind cN View Value fC jh eJ dH Proof Le wC wD oa ki jF)]:List MV)))))) (
 some (0,(bk x1 x2 x3 x4 x5 x6)))) λp1=>
 du (sh p1.1 0)<|
 lk .i64 .i64 p1.2 λx7 x8 x9 qE sB sQ=>
 some (.inl [.i .i64 (cV .i64 (x+1)),.i .i64 x7,.i .i64 x8,.list x9,.list qE,.list sB,.list sQ])) (
 some (.inr (2,(bk x1 x2 x3 x4 x5 x6))))) [.i .i64 0,.i .i64 SF,.i .i64 ST,.list bY,.list Want,.list N,.list aC]) λp=>
 du (sh p.1 2)<|
 lk .i64 .i64 p.2 λsG uY yt BI xi Ld=>
 some (.ew (.eu []) (bk sG uY yt BI xi Ld))
def CA:GT:=bN 72 (cl2 rI) gW1
theorem Ez:SG CA:=fnC abT 0 agE [] [(0,1000000)] 30 [25,26] [] [] [(4,[0,1,2,3,4,6,5,7,8,9,10,11,0,1,2,3,4,6,7,5,8,9,10,11,12,5,7])] [] [(4,⟨[0,5,6,7,8],[],[],[(0,[(1000000,.box [.k (.i .i64),.k (.i .i64),.k .l,.k .l,.k .l,.k .l])])],[]⟩)] [(1,⟨[0,6,7],[],[(8,.sc (.k (.i .i64))),(1000000,.box [.k (.i .i64),.k (.i .i64),.k .l,.k .l,.k .l,.k .l])],[(2,[(1000000,.box [.k (.i .i64),.k (.i .i64),.k .l,.k .l,.k .l,.k .l])])],[]⟩)] [] Tryz.func72 (by kernel_rfl) (by kernel_rfl) (T8 λ_ _=>by kernel_rfl)
def q8 (a a1:MV):Option MV:=gA a λcs=>
 dj cs λSF ST bY Want N aC=>
 gA a1 λhU=>
 nP hU λKind I J Rf Rg Rh FH GM Ea xj qX FI abu Ri Rj JE BL BM=>
 bH (decide (Kind=3)) (
 bd (yA (.agg (bk SF ST bY Want N aC)) (.agg (aF Rf Rg Rh FH GM Ea xj qX FI abu Ri Rj JE BL BM))) λrA=>
 gB rA λx=>
 bd (
 bH x (
 bd (rI (bk SF ST bY Want N aC) (.list ([.agg (aF Rf Rg Rh FH GM Ea xj qX FI abu Ri Rj JE BL BM)]:List MV))) λbu=>
 gW bu λx1 ls=>
 dj ls λzw zx FV xy N1 xz=>
 some (0,(bk zw zx FV xy N1 xz))) (
 some (0,(bk SF ST bY Want N aC)))) λp=>
 du (sh p.1 0)<|
 lk .i64 .i64 p.2 λx2 x3 x4 x5 x6 x7=>
 some (.agg (bk x2 x3 x4 x5 x6 x7))) (
 bd (fp (.agg (bk SF ST bY Want N aC)) (.i .i64 I) (.b false)) λcg=>
 gB cg λx8=>
 bH (!x8) (
 some (.agg (bk SF ST bY Want N aC))) (
 bd (jD 18 256 [.list N]) λcM=>
 gF cM λxs=>
 bd (
 bH (decide (Kind=0)) (
 bd (
 bH (decide ((0:Int)<=J)) (
 cy aC λlen=>
 some [.b (decide (J<(len:Int)))]) (
 some [.b false])) λvs=>
 gC vs λm36 abv=>
 gB m36 λx9=>
 gN abv<|
 bd (
 bH x9 (
 idx aC J λy=>
 gA y λqw=>
 eC qw λanx cN View Value fC jh eJ dH Proof Le wC wD oa ki jF=>
 bd (jV (bk SF ST bY Want xs aC) (.i .i64 I) (.agg (aF anx cN View Value fC jh eJ dH Proof Le wC wD oa ki jF))) λiR=>
 gW iR λqE ls1=>
 dj ls1 λSF2 ST2 abU Rx N2 Ry=>
 some (0,(bk SF2 ST2 abU Rx N2 Ry))) (
 some (0,(bk SF ST bY Want xs aC)))) λp2=>
 du (sh p2.1 0)<|
 lk .i64 .i64 p2.2 λsB sQ sG uY LB yt=>
 some (0,(bk sB sQ sG uY LB yt))) (
 bd (
 bH (decide (Kind=1)) (
 idx xs I λy1=>
 gA y1 λxJ=>
 ba xJ λAD AE AF eI mT AG ei ej cZ AH AJ bQ bR ek fV eo dq et=>
 bd (lD (bk SF ST bY Want xs aC) (.i .i64 I) (.i .i64 (cV .i64 (eI+1)))) λmc=>
 gW mc λBI ls2=>
 dj ls2 λSF3 ST3 abV Rz N3 abW=>
 some (0,(bk SF3 ST3 abV Rz N3 abW))) (
 bd (
 bH (decide (Kind=2)) (
 bd (mZ (bk SF ST bY Want xs aC) (.i .i64 I)) λsw=>
 gW sw λxi ls3=>
 dj ls3 λSF4 ST4 ar3 anz N4 anA=>
 some (0,(bk SF4 ST4 ar3 anz N4 anA))) (
 bd (
 bH (decide (Kind=4)) (
 idx xs I λy2=>
 gA y2 λcs4=>
 ba cs4 λKb Kc Ke uJ AQ Kf qg qh mY Kg Kh jm jn qi uK oK Ki Kj=>
 bd (tj (.agg [.i .i64 SF,.i .i64 ST]) (.i .i64 I) (.agg (aw Kb Kc Ke uJ AQ Kf qg qh mY Kg Kh jm jn qi uK oK Ki Kj))) λDv=>
 gA Dv λcs5=>
 ba cs5 λar4 ar5 ar6 ai1 anB ar7 aeW aeX abX ar8 ar9 Ud Ue aeY ai2 aeZ asa asb=>
 idx xs I λy3=>
 gA y3 λcs6=>
 ba cs6 λayt ayu ayv asc auo ayw aoS aoT anC ayx ayy ai3 ai4 aoU asd aoV ayz ayA=>
 some (0,(bk SF ST bY Want (xs.set (AI I) (.agg (aw ar4 ar5 ar6 ai1 anB ar7 aeW aeX abX ar8 ar9 Ud Ue aeY ai2 aeZ asa asb))) aC))) (
 some (0,(bk SF ST bY Want xs aC)))) λp5=>
 du (sh p5.1 0)<|
 lk .i64 .i64 p5.2 λLd Ua XK YL Rn VR=>
 some (0,(bk Ld Ua XK YL Rn VR)))) λp4=>
 du (sh p4.1 0)<|
 lk .i64 .i64 p4.2 λx23 x24 x25 x26 VQ x27=>
 some (0,(bk x23 x24 x25 x26 VQ x27)))) λp3=>
 du (sh p3.1 0)<|
 lk .i64 .i64 p3.2 λx28 x29 x30 x31 xs4 x32=>
 some (0,(bk x28 x29 x30 x31 xs4 x32)))) λp1=>
 du (sh p1.1 0)<|
 lk .i64 .i64 p1.2 λx33 x34 x35 x36 xs5 x37=>
 some (.agg (bk x33 x34 x35 x36 xs5 x37))))
def Nb:GT:=bN 29 (jN q8) CA
theorem LL:SG Nb:=Dx Ez [] [] 96 [17] [] [] [(12,[0,1,2,3,4,5,6,7,8,9]),(14,[0,1,2,3,4,5,6,7,8,9,10,11,12]),(18,[0,1,2,3,4,5,6,7,8,9,10,11,12,13,14,15,16])] [(11,⟨[2,3,4],[29],[],[(0,[(45,.sc (.k .b)),(5,.pt 2 0)])],[]⟩)] [(12,⟨[3,4],[],[],[(0,[(2,.box [.k (.i .i64),.k (.i .i64),.k .l,.k .l,.own 29 40 false,.k .l]),(5,.pt 2 0)])],[]⟩),(18,⟨[3,4],[],[],[(0,[(2,.box [.k (.i .i64),.k (.i .i64),.k .l,.k .l,.own 29 40 false,.k .l]),(5,.pt 2 0)])],[2000004]⟩),(16,⟨[3,4,32],[],[],[(0,[(2,.box [.k (.i .i64),.k (.i .i64),.k .l,.k .l,.own 29 40 false,.k .l]),(5,.pt 2 0)])],[]⟩),(14,⟨[3,4,32],[],[],[(0,[(2,.box [.k (.i .i64),.k (.i .i64),.k .l,.k .l,.own 29 40 false,.k .l]),(5,.pt 2 0)])],[]⟩),(11,⟨[3,4,32],[],[],[(0,[(2,.box [.k (.i .i64),.k (.i .i64),.k .l,.k .l,.own 29 40 false,.k .l]),(5,.pt 2 0)])],[]⟩),(4,⟨[3,4,5],[],[],[(0,[(2,.box [.k (.i .i64),.k (.i .i64),.k .l,.k .l,.k .l,.k .l])])],[]⟩)] [] [] Tryz.func29 (by kernel_rfl) (cf (λ_ _=>by kernel_rfl))
def tL:Option MV:=du (decide ((0:Int)<=4/\(4:Int)=4/\(4:Int) *1<=2^46))<| bd (AA (.agg [.i .i64 1,.i .i64 0]) (.list (aaK (AI 4) (.b false))) (.list ([.s ([97]:List UInt8),.s ([98]:List UInt8),.s ([99]:List UInt8),.s ([100]:List UInt8)]:List MV))) λrA=>
 gT rA λvs=>
 gC vs λm zu=>
 gA m λcs=>
 dj cs λSF ST bY Want N aC=>
 gC zu λm7 C9=>
 gI .i64 m7 λx=>
 gN C9<|
 bd (q8 (.agg (bk SF ST bY Want N aC)) (.agg [.i .i64 2,.i .i64 0,.i .i64 0,.i .i64 0,.i .i64 0,.i .i64 0,.s ([]:List UInt8),.list ([]:List MV),.i .i64 0,.i .i64 0,.s ([]:List UInt8),.list ([]:List MV),.i .i64 0,.i .i64 0,.b false,.i .i64 0,.s ([]:List UInt8),.list ([]:List MV)])) λbu=>
 gA bu λhU=>
 dj hU λzw zx FV xy N1 xz=>
 bd (Loop (λAB=>
 Jy AB λc c1 c2 c3 c4 c5 i=>
 bH (decide (i<4)) (
 bd (q8 (.agg (bk c c1 c2 c3 c4 c5)) (.agg [.i .i64 0,.i .i64 i,.i .i64 0,.i .i64 0,.i .i64 0,.i .i64 0,.s ([]:List UInt8),.list ([]:List MV),.i .i64 0,.i .i64 0,.s ([]:List UInt8),.list ([]:List MV),.i .i64 0,.i .i64 0,.b false,.i .i64 0,.s ([]:List UInt8),.list ([]:List MV)])) λcg=>
 gA cg λqw=>
 dj qw λSF2 ST2 abU Rx N2 Ry=>
 some (.inl (pQ SF2 ST2 abU Rx N2 Ry (cV .i64 (i+1))))) (
 some (.inr (2,(bk c c1 c2 c3 c4 c5))))) (pQ zw zx FV xy N1 xz 0)) λp=>
 du (sh p.1 2)<|
 lk .i64 .i64 p.2 λc6 c7 c8 c9 c10 c11=>
 bd (Loop (λabI=>
 Jy abI λc12 c13 c14 c15 c16 c17 i1=>
 bH (decide (i1<5)) (
 bd (q8 (.agg (bk c12 c13 c14 c15 c16 c17)) (.agg [.i .i64 0,.i .i64 2,.i .i64 i1,.i .i64 0,.i .i64 0,.i .i64 0,.s ([]:List UInt8),.list ([]:List MV),.i .i64 0,.i .i64 0,.s ([]:List UInt8),.list ([]:List MV),.i .i64 0,.i .i64 0,.b false,.i .i64 0,.s ([]:List UInt8),.list ([]:List MV)])) λcM=>
 gA cM λxJ=>
 dj xJ λSF3 ST3 abV Rz N3 abW=>
 some (.inl (pQ SF3 ST3 abV Rz N3 abW (cV .i64 (i1+1))))) (
 some (.inr (4,(bk c12 c13 c14 c15 c16 c17))))) (pQ c6 c7 c8 c9 c10 c11 1)) λp1=>
 du (sh p1.1 4)<|
 lk .i64 .i64 p1.2 λc18 c19 c20 c21 c22 c23=>
 bd (nE (.agg (bk c18 c19 c20 c21 c22 c23)) (.i .i64 2)) λiR=>
 gT iR λlK=>
 gC lK λm52 anD=>
 gS m52 λx1=>
 gC anD λm53 anE=>
 gB m53 λx2=>
 gN anE<|
 bd (nE (.agg (bk c18 c19 c20 c21 c22 c23)) (.i .i64 1)) λmc=>
 gT mc λuj=>
 gC uj λm54 abY=>
 gS m54 λx3=>
 gC abY λm55 abZ=>
 gB m55 λx4=>
 gN abZ<|
 bd (
 bH (decide (x=0)) (
 bH x2 (
 bH (decide (x1=([97]:List UInt8))) (
 some [.b (!x4)]) (
 some [.b false])) (
 some [.b false])) (
 some [.b false])) λvs3=>
 gC vs3 λm56 Rw=>
 gB m56 λx5=>
 gN Rw<|
 some (.b x5)
def cG:GT:=bN 9 (ais tL) Nb
theorem CB:SG cG:=Dx LL [] [] 58 [12] [] [] [] [(13,⟨[2,5,6,8],[],[],[(0,[(0,.sc (.k .b))])],[11]⟩)] [] [(8,⟨[2],[],[(1,.box [.k (.i .i64),.k (.i .i64),.k .l,.k .l,.k .l,.k .l]),(4,.sc (.k (.i .i64)))],[(4,[(1,.box [.k (.i .i64),.k (.i .i64),.k .l,.k .l,.k .l,.k .l])])],[11]⟩),(4,⟨[2],[],[(1,.box [.k (.i .i64),.k (.i .i64),.k .l,.k .l,.k .l,.k .l]),(3,.sc (.k (.i .i64)))],[(2,[(1,.box [.k (.i .i64),.k (.i .i64),.k .l,.k .l,.k .l,.k .l])])],[11]⟩)] [] Tryz.func9 (by kernel_rfl) (aeL (by kernel_rfl))
def kM:CN:=⟨84,146,3,82,65,62,23,4,24,152,74,89,88,42,73,90,91,77,76,75,34,2000004,40,15⟩
def O4 (t:Nat):TI:=match uk Gy t with|some I=>I|none=>⟨false,0,0,[],[],[],[],0,[]⟩
theorem ai5:nO Tryz.prog cx cG kM Tryz.f34 (λk=>k) (iZ Tryz.f34 ja) where
 pos:=Tryz.func34
 name:=by kernel_rfl
 tmps:=by kernel_rfl
 res:=by kernel_rfl
 body:=by kernel_rfl
 ops:=by constructor<;>exact ⟨by kernel_rfl,by kernel_rfl,by kernel_rfl⟩
 each:=⟨Tryz.f88,λk=>k,iZ Tryz.f88 ja,⟨Tryz.func88,by kernel_rfl,by kernel_rfl,by kernel_rfl,by kernel_rfl,by constructor<;>exact ⟨by kernel_rfl,by kernel_rfl,by kernel_rfl⟩,by kernel_rfl⟩⟩
 c2:=⟨Tryz.f90,0,iZ Tryz.f90 ja,⟨Tryz.func90,by kernel_rfl,by kernel_rfl,by kernel_rfl,by kernel_rfl,⟨by kernel_rfl,by kernel_rfl,by kernel_rfl⟩,⟨by kernel_rfl,by kernel_rfl,by kernel_rfl⟩,⟨by kernel_rfl,by kernel_rfl,by kernel_rfl⟩, #[146,3,3],⟨by kernel_rfl,by kernel_rfl,by kernel_rfl⟩⟩⟩
 c3:=⟨Tryz.f91,0,iZ Tryz.f91 ja,⟨Tryz.func91,by kernel_rfl,by kernel_rfl,by kernel_rfl,by kernel_rfl,⟨by kernel_rfl,by kernel_rfl,by kernel_rfl⟩,⟨by kernel_rfl,by kernel_rfl,by kernel_rfl⟩,⟨by kernel_rfl,by kernel_rfl,by kernel_rfl⟩, #[146,3,62],⟨by kernel_rfl,by kernel_rfl,by kernel_rfl⟩⟩⟩
 hT:=oS
 mix:=wv
 d5:=by kernel_rfl
 d15:=by kernel_rfl
 fl:=rfl
 key:=λ_=>rfl
 snd:=λf ms r h=>CB.all f ms r h
 tyS:=⟨O4 84,by kernel_rfl,by kernel_rfl,by kernel_rfl,by kernel_rfl⟩
 tyP:=⟨O4 146,by kernel_rfl,by kernel_rfl,by kernel_rfl⟩
 tyi:=⟨O4 3,by kernel_rfl,by kernel_rfl,by kernel_rfl⟩
 tyN:=⟨O4 82,by kernel_rfl,by kernel_rfl,by kernel_rfl⟩
 tyM:=⟨O4 65,by kernel_rfl,by kernel_rfl,by kernel_rfl⟩
 tyB:=⟨O4 4,by kernel_rfl,by kernel_rfl,by kernel_rfl⟩
 tyb:=⟨O4 24,by kernel_rfl,by kernel_rfl,by kernel_rfl⟩
 tym:=⟨O4 62,by kernel_rfl,by kernel_rfl,by kernel_rfl⟩
 tyZ:=⟨O4 23,by kernel_rfl,by kernel_rfl,by kernel_rfl⟩
 ah6:=by kernel_rfl
 gv:=⟨by kernel_rfl,by kernel_rfl,by kernel_rfl⟩
 gvF:=by kernel_rfl
 gvC:=⟨by kernel_rfl,by kernel_rfl,by kernel_rfl,by kernel_rfl⟩
 sig:=⟨by kernel_rfl,by kernel_rfl,by kernel_rfl⟩
 ah7:=by kernel_rfl
 nT:=by kernel_rfl
def FW (a:MV):Option MV:=VB cG kM.k [a]
def Nc:GT:=bN 34 (qS FW) cG
theorem LM:SG Nc:=CB.add λf ms r hk hr=>by have hk:f=kM.f:=hk;subst hk;exact aeF ai5 (by decide) (eP (B:=VB cG kM.k) (λ_=>rfl) hr)
def yG (a a1:MV):Option MV:=gA a λcs=>
 gC cs λm zu=>
 gI .i64 m λSF=>
 gC zu λm1 wz=>
 gI .i64 m1 λST=>
 gC wz λm2 pR=>
 gL m2 λbY=>
 gC pR λm3 C6=>
 gL m3 λWant=>
 gN C6<|
 gL a1 λmu=>
 bd (BK (.agg [.i .i64 SF,.i .i64 ST,.list bY,.list Want]) (.list mu)) λrA=>
 gB rA λx=>
 bH (!x) (
 bd (tL) λbu=>
 gB bu λx1=>
 some (.b x1)) (
 bd (AA (.agg [.i .i64 SF,.i .i64 ST]) (.list bY) (.list Want)) λcg=>
 gT cg λvs=>
 gC vs λm4 C7=>
 gA m4 λhU=>
 dj hU λzw zx FV xy N aC=>
 gC C7 λLy xm=>
 gI .i64 Ly λx2=>
 gN xm<|
 bH (!decide (x2=0)) (
 bd (tL) λcM=>
 gB cM λx3=>
 some (.b x3)) (
 bd (Loop (λmS=>
 Jy mS λx4 x5 x6 x7 x8 x9 qE=>
 cy mu λlen=>
 bH (decide (qE<(len:Int))) (
 idx mu qE λy=>
 gA y λqw=>
 nP qw λKind I J Rf Rg Rh FH GM Ea xj qX FI abu Ri Rj JE BL BM=>
 bd (q8 (.agg (bk x4 x5 x6 x7 x8 x9)) (.agg [.i .i64 Kind,.i .i64 I,.i .i64 J,.i .i64 Rf,.i .i64 Rg,.i .i64 Rh,.s FH,.list GM,.i .i64 Ea,.i .i64 xj,.s qX,.list FI,.i .i64 abu,.i .i64 Ri,.b Rj,.i .i64 JE,.s BL,.list BM])) λiR=>
 gA iR λxJ=>
 dj xJ λSF2 ST2 abU Rx N1 xz=>
 some (.inl (pQ SF2 ST2 abU Rx N1 xz (cV .i64 (qE+1))))) (
 some (.inr (2,(bk x4 x5 x6 x7 x8 x9))))) (pQ zw zx FV xy N aC 0)) λp=>
 du (sh p.1 2)<|
 lk .i64 .i64 p.2 λsB sQ sG uY yt BI=>
 bd (FW (.agg (bk sB sQ sG uY yt BI))) λmc=>
 gA mc λcs4=>
 dj cs4 λSF3 ST3 abV Rz N2 Ry=>
 bd (Loop (λabY=>
 gC abY λm55 abZ=>
 gS m55 λxi=>
 gC abZ λm56 Rw=>
 gB m56 λLd=>
 gC Rw λm57 anF=>
 gI .i64 m57 λUa=>
 gN anF<|
 cy bY λgK=>
 bH (decide (Ua<(gK:Int))) (
 bd (nE (.agg (bk SF3 ST3 abV Rz N2 Ry)) (.i .i64 Ua)) λsw=>
 gT sw λlK=>
 gC lK λm58 anG=>
 gS m58 λXK=>
 gC anG λm59 abP=>
 gB m59 λYL=>
 gN abP<|
 idx bY Ua λy1=>
 gB y1 λVR=>
 bH VR (
 some (.inl [.s xi,.b Ld,.i .i64 (cV .i64 (Ua+1))])) (
 bd (
 bH (!YL) (
 some [.b true]) (
 bH (!Ld) (
 some [.b (!decide (XK=xi))]) (
 some [.b false]))) λuj=>
 gC uj λm60 abQ=>
 gB m60 λx23=>
 gN abQ<|
 bH x23 (
 some (.inr (1,[.b false]))) (
 some (.inl [.s XK,.b false,.i .i64 (cV .i64 (Ua+1))])))) (
 some (.inr (4,[.b Ld])))) [.s ([]:List UInt8),.b true,.i .i64 0]) λp1=>
 bH (sh p1.1 4) (
 gC p1.2 λm61 abR=>
 gB m61 λx24=>
 gN abR<|
 bd (
 bd (tL) λDv=>
 gB Dv λx25=>
 bH x25 (
 some [.b (!x24)]) (
 some [.b false])) λvs3=>
 gC vs3 λm62 anH=>
 gB m62 λx26=>
 gN anH<|
 some (.b x26)) (
 du (sh p1.1 1)<|
 gC p1.2 λm63 anI=>
 gB m63 λx27=>
 gN anI<|
 some (.b x27))))
def O5:GT:=bN 7 (jN yG) Nc
theorem FX:SG O5:=Dx LM [] [] 80 [] [] [] [(9,[0,1,2,3,4,5,6])] [(20,⟨[9],[],[],[(0,[(4,.sc (.k .b))])],[]⟩),(17,⟨[2,5,8,9,10,11,12],[],[],[(0,[(73,.sc (.k .b))])],[]⟩)] [] [(13,⟨[2,5],[],[(8,.sc (.k .s)),(9,.sc (.k .b)),(10,.sc (.k (.i .i64)))],[(1,[(4,.sc (.k .b))]),(4,[(9,.sc (.k .b))])],[]⟩),(7,⟨[1,2],[],[(5,.box [.k (.i .i64),.k (.i .i64),.k .l,.k .l,.k .l,.k .l]),(7,.sc (.k (.i .i64)))],[(2,[(5,.box [.k (.i .i64),.k (.i .i64),.k .l,.k .l,.k .l,.k .l])])],[]⟩)] [] Tryz.func7 (by kernel_rfl) (cf (λ_ _=>by kernel_rfl))
end
end Dn.S
