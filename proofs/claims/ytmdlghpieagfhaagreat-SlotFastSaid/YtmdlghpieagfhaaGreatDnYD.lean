import Derived.Test.YtmdlghpieagfhaaGreatDnYTab
import Derived.Test.YtmdlghpieagfhaaGreatDnC
import Derived.Test.YtmdlghpieagfhaaGreatDnYT
import Derived.KernelRfl
import Derived.Test.YtmdlghpieagfhaaGreatProg
/-
  The functions, on plain values, and their contracts. Conditions: none.
-/
open Go Dn Go.Proofs
set_option linter.unusedVariables false
set_option linter.unusedSimpArgs false
set_option maxRecDepth 100000
namespace Dn.S
theorem nY:jI Tryz.prog (rJ DV):=Ns (by kernel_rfl)
theorem G0:HE Tryz.prog (rJ DV):=OW (by kernel_rfl)
theorem vX:Tryz.prog.follows .mixedOrders=true:=by kernel_rfl
def Wn {R:Type} (k0 k1:IntKind) (l0:List MV) (K:Int→Int→Option R):Option R:=gC l0 fun m0 l1=>gI k0 m0 fun x0=>gC l1 fun m1 l2=>gI k1 m1 fun x1=>gN l2<|K x0 x1
def NM {R:Type} (k0 k1 k3:IntKind) (l0:List MV) (K:Int→Int→Bool→Int→List UInt8→List MV→Option R):Option R:=gC l0 fun m0 l1=>gI k0 m0 fun x0=>gC l1 fun m1 l2=>gI k1 m1 fun x1=>gC l2 fun m2 l3=>gB m2 fun x2=>gC l3 fun m3 l4=>gI k3 m3 fun x3=>gC l4 fun m4 l5=>gS m4 fun x4=>gC l5 fun m5 l6=>gL m5 fun x5=>gN l6<|K x0 x1 x2 x3 x4 x5
def El {R:Type} (k0 k1 k2 k3 k5:IntKind) (l0:List MV) (K:Int→Int→Int→Int→Bool→Int→List UInt8→List MV→List MV→Option R):Option R:=gC l0 fun m0 l1=>gI k0 m0 fun x0=>gC l1 fun m1 l2=>gI k1 m1 fun x1=>gC l2 fun m2 l3=>gI k2 m2 fun x2=>gC l3 fun m3 l4=>gI k3 m3 fun x3=>gC l4 fun m4 l5=>gB m4 fun x4=>gC l5 fun m5 l6=>gI k5 m5 fun x5=>gC l6 fun m6 l7=>gS m6 fun x6=>gC l7 fun m7 l8=>gL m7 fun x7=>gC l8 fun m8 l9=>gL m8 fun x8=>gN l9<|K x0 x1 x2 x3 x4 x5 x6 x7 x8
def ek {R:Type} (k0 k1 k2 k3 k5 k9 NN Va:IntKind) (l0:List MV) (K:Int→Int→Int→Int→Bool→Int→List UInt8→List MV→List MV→Int→Int→List MV→List MV→List MV→Bool→List UInt8→List MV→Int→Option R):Option R:=gC l0 fun m0 l1=>gI k0 m0 fun x0=>gC l1 fun m1 l2=>gI k1 m1 fun x1=>gC l2 fun m2 l3=>gI k2 m2 fun x2=>gC l3 fun m3 l4=>gI k3 m3 fun x3=>gC l4 fun m4 l5=>gB m4 fun x4=>gC l5 fun m5 l6=>gI k5 m5 fun x5=>gC l6 fun m6 l7=>gS m6 fun x6=>gC l7 fun m7 l8=>gL m7 fun x7=>gC l8 fun m8 l9=>gL m8 fun x8=>gC l9 fun m9 l10=>gI k9 m9 fun x9=>gC l10 fun Kf l11=>gI NN Kf fun pu=>gC l11 fun Kg l12=>gL Kg fun pZ=>gC l12 fun Bh l13=>gL Bh fun qN=>gC l13 fun Io l14=>gL Io fun qp=>gC l14 fun Ip l15=>gB Ip fun rO=>gC l15 fun Pe l16=>gS Pe fun uZ=>gC l16 fun Pf l17=>gL Pf fun xZ=>gC l17 fun Bi l18=>gI Va Bi fun uQ=>gN l18<|K x0 x1 x2 x3 x4 x5 x6 x7 x8 x9 pu pZ qN qp rO uZ xZ uQ
def gG {R:Type} (k0 k1 k2 k3 k5 k9 NN Va:IntKind) (l0:List MV) (K:Int→Int→Int→Int→Bool→Int→List UInt8→List MV→List MV→Int→Int→List MV→List MV→List MV→Bool→List UInt8→List MV→Int→List MV→Option R):Option R:=gC l0 fun m0 l1=>gI k0 m0 fun x0=>gC l1 fun m1 l2=>gI k1 m1 fun x1=>gC l2 fun m2 l3=>gI k2 m2 fun x2=>gC l3 fun m3 l4=>gI k3 m3 fun x3=>gC l4 fun m4 l5=>gB m4 fun x4=>gC l5 fun m5 l6=>gI k5 m5 fun x5=>gC l6 fun m6 l7=>gS m6 fun x6=>gC l7 fun m7 l8=>gL m7 fun x7=>gC l8 fun m8 l9=>gL m8 fun x8=>gC l9 fun m9 l10=>gI k9 m9 fun x9=>gC l10 fun Kf l11=>gI NN Kf fun pu=>gC l11 fun Kg l12=>gL Kg fun pZ=>gC l12 fun Bh l13=>gL Bh fun qN=>gC l13 fun Io l14=>gL Io fun qp=>gC l14 fun Ip l15=>gB Ip fun rO=>gC l15 fun Pe l16=>gS Pe fun uZ=>gC l16 fun Pf l17=>gL Pf fun xZ=>gC l17 fun Bi l18=>gI Va Bi fun uQ=>gC l18 fun FQ l19=>gL FQ fun FR=>gN l19<|K x0 x1 x2 x3 x4 x5 x6 x7 x8 x9 pu pZ qN qp rO uZ xZ uQ FR
def kY {R:Type} (k0 k1 k2 k5 k6 k9 NN k12:IntKind) (l0:List MV) (K:Int→Int→Int→List UInt8→List MV→Int→Int→List UInt8→List MV→Int→Int→Bool→Int→List UInt8→List MV→Option R):Option R:=gC l0 fun m0 l1=>gI k0 m0 fun x0=>gC l1 fun m1 l2=>gI k1 m1 fun x1=>gC l2 fun m2 l3=>gI k2 m2 fun x2=>gC l3 fun m3 l4=>gS m3 fun x3=>gC l4 fun m4 l5=>gL m4 fun x4=>gC l5 fun m5 l6=>gI k5 m5 fun x5=>gC l6 fun m6 l7=>gI k6 m6 fun x6=>gC l7 fun m7 l8=>gS m7 fun x7=>gC l8 fun m8 l9=>gL m8 fun x8=>gC l9 fun m9 l10=>gI k9 m9 fun x9=>gC l10 fun Kf l11=>gI NN Kf fun pu=>gC l11 fun Kg l12=>gB Kg fun pZ=>gC l12 fun Bh l13=>gI k12 Bh fun qN=>gC l13 fun Io l14=>gS Io fun qp=>gC l14 fun Ip l15=>gL Ip fun rO=>gN l15<|K x0 x1 x2 x3 x4 x5 x6 x7 x8 x9 pu pZ qN qp rO
def vY {R:Type} (k0 k1:IntKind) (l0:List MV) (K:Int→Int→List MV→List MV→List MV→Bool→List UInt8→Option R):Option R:=gC l0 fun m0 l1=>gI k0 m0 fun x0=>gC l1 fun m1 l2=>gI k1 m1 fun x1=>gC l2 fun m2 l3=>gL m2 fun x2=>gC l3 fun m3 l4=>gL m3 fun x3=>gC l4 fun m4 l5=>gL m4 fun x4=>gC l5 fun m5 l6=>gB m5 fun x5=>gC l6 fun m6 l7=>gS m6 fun x6=>gN l7<|K x0 x1 x2 x3 x4 x5 x6
def gJ {R:Type} (k0 k1:IntKind) (l0:List MV) (K:Int→Int→List MV→List MV→List MV→List MV→Option R):Option R:=gC l0 fun m0 l1=>gI k0 m0 fun x0=>gC l1 fun m1 l2=>gI k1 m1 fun x1=>gC l2 fun m2 l3=>gL m2 fun x2=>gC l3 fun m3 l4=>gL m3 fun x3=>gC l4 fun m4 l5=>gL m4 fun x4=>gC l5 fun m5 l6=>gL m5 fun x5=>gN l6<|K x0 x1 x2 x3 x4 x5
def Em {R:Type} (k0 k1 k6:IntKind) (l0:List MV) (K:Int→Int→List MV→List MV→List MV→List MV→Int→Option R):Option R:=gC l0 fun m0 l1=>gI k0 m0 fun x0=>gC l1 fun m1 l2=>gI k1 m1 fun x1=>gC l2 fun m2 l3=>gL m2 fun x2=>gC l3 fun m3 l4=>gL m3 fun x3=>gC l4 fun m4 l5=>gL m4 fun x4=>gC l5 fun m5 l6=>gL m5 fun x5=>gC l6 fun m6 l7=>gI k6 m6 fun x6=>gN l7<|K x0 x1 x2 x3 x4 x5 x6
def abP {R:Type} (k0 k1:IntKind) (l0:List MV) (K:Int→Int→List UInt8→Option R):Option R:=gC l0 fun m0 l1=>gI k0 m0 fun x0=>gC l1 fun m1 l2=>gI k1 m1 fun x1=>gC l2 fun m2 l3=>gS m2 fun x2=>gN l3<|K x0 x1 x2
def Vb {R:Type} (k0:IntKind) (l0:List MV) (K:Int→List UInt8→Bool→Option R):Option R:=gC l0 fun m0 l1=>gI k0 m0 fun x0=>gC l1 fun m1 l2=>gS m1 fun x1=>gC l2 fun m2 l3=>gB m2 fun x2=>gN l3<|K x0 x1 x2
def oLI {R:Type} (k1:IntKind) (l0:List MV) (K:List MV→Int→Option R):Option R:=gC l0 fun m0 l1=>gL m0 fun x0=>gC l1 fun m1 l2=>gI k1 m1 fun x1=>gN l2<|K x0 x1
abbrev cf {R:Type}:= @kY R .i64 .i64 .i64 .i64 .i64 .i64 .i64 .i64
abbrev fm {R:Type}:= @NM R .i64 .i64 .i64
abbrev zi {R:Type}:= @Wn R .i64 .i64
abbrev fA {R:Type}:= @El R .i64 .i64 .i64 .i64 .i64
abbrev fe {R:Type}:= @vY R .i64 .i64
abbrev aT {R:Type}:= @ek R .i64 .i64 .i64 .i64 .i64 .i64 .i64 .i64
abbrev cw {R:Type}:= @gJ R .i64 .i64
abbrev Bj {R:Type}:= @oLI R .i64
abbrev kb {R:Type}:= @abP R .i64 .i64
abbrev Iq {R:Type}:= @Vb R .i64
abbrev vZ {R:Type}:= @Em R .i64 .i64 .i64
@[reducible] def eC (x0 : Int) (x1 : Int) (x2 : Bool) (x3 : Int) (x4 : List UInt8) (x5 : List MV) : List MV := [.i .i64 x0, .i .i64 x1, .b x2, .i .i64 x3, .s x4, .list x5]
@[reducible] def cq (x0 : Int) (x1 : Int) (x2 : Int) (x3 : Int) (x4 : Bool) (x5 : Int) (x6 : List UInt8) (x7 : List MV) (x8 : List MV) : List MV := [.i .i64 x0, .i .i64 x1, .i .i64 x2, .i .i64 x3, .b x4, .i .i64 x5, .s x6, .list x7, .list x8]
@[reducible] def aq (x0 : Int) (x1 : Int) (x2 : Int) (x3 : Int) (x4 : Bool) (x5 : Int) (x6 : List UInt8) (x7 : List MV) (x8 : List MV) (x9 : Int) (pu : Int) (pZ : List MV) (qN : List MV) (qp : List MV) (rO : Bool) (uZ : List UInt8) (xZ : List MV) (uQ : Int) : List MV := [.i .i64 x0, .i .i64 x1, .i .i64 x2, .i .i64 x3, .b x4, .i .i64 x5, .s x6, .list x7, .list x8, .i .i64 x9, .i .i64 pu, .list pZ, .list qN, .list qp, .b rO, .s uZ, .list xZ, .i .i64 uQ]
@[reducible] def di (x0 : Int) (x1 : Int) (x2 : Int) (x3 : Int) (x4 : Bool) (x5 : Int) (x6 : List UInt8) (x7 : List MV) (x8 : List MV) (x9 : Int) (pu : Int) (pZ : List MV) (qN : List MV) (qp : List MV) (rO : Bool) (uZ : List UInt8) (xZ : List MV) (uQ : Int) (FR : List MV) : List MV := [.i .i64 x0, .i .i64 x1, .i .i64 x2, .i .i64 x3, .b x4, .i .i64 x5, .s x6, .list x7, .list x8, .i .i64 x9, .i .i64 pu, .list pZ, .list qN, .list qp, .b rO, .s uZ, .list xZ, .i .i64 uQ, .list FR]
@[reducible] def cT (x0 : Int) (x1 : Int) (x2 : Int) (x3 : Int) (x4 : Int) (x5 : Int) (x6 : List UInt8) (x7 : List MV) (x8 : Int) (x9 : Int) (pu : List UInt8) (pZ : List MV) (qN : Int) (qp : Int) (rO : Bool) (uZ : Int) (xZ : List UInt8) (uQ : List MV) : List MV := [.i .i64 x0, .i .i64 x1, .i .i64 x2, .i .i64 x3, .i .i64 x4, .i .i64 x5, .s x6, .list x7, .i .i64 x8, .i .i64 x9, .s pu, .list pZ, .i .i64 qN, .i .i64 qp, .b rO, .i .i64 uZ, .s xZ, .list uQ]
@[reducible] def aC (x0 : Int) (x1 : Int) (x2 : Int) (x3 : List UInt8) (x4 : List MV) (x5 : Int) (x6 : Int) (x7 : List UInt8) (x8 : List MV) (x9 : Int) (pu : Int) (pZ : Bool) (qN : Int) (qp : List UInt8) (rO : List MV) : List MV := [.i .i64 x0, .i .i64 x1, .i .i64 x2, .s x3, .list x4, .i .i64 x5, .i .i64 x6, .s x7, .list x8, .i .i64 x9, .i .i64 pu, .b pZ, .i .i64 qN, .s qp, .list rO]
@[reducible] def cj (x0 : Int) (x1 : Int) (x2 : List MV) (x3 : List MV) (x4 : List MV) (x5 : Bool) (x6 : List UInt8) : List MV := [.i .i64 x0, .i .i64 x1, .list x2, .list x3, .list x4, .b x5, .s x6]
@[reducible] def aR (x0 : Int) (x1 : Int) (x2 : List MV) (x3 : List MV) (x4 : List MV) (x5 : List MV) : List MV := [.i .i64 x0, .i .i64 x1, .list x2, .list x3, .list x4, .list x5]
@[reducible] def gK (x0 : Int) (x1 : Int) (x2 : List MV) (x3 : List MV) (x4 : List MV) (x5 : List MV) (x6 : Int) : List MV := [.i .i64 x0, .i .i64 x1, .list x2, .list x3, .list x4, .list x5, .i .i64 x6]
def En:List (Nat×mI)→Nat→mI
 |[],_=>default
 |(k,s)::r,t=>bif Nat.beq k t then s else En r t
def Kh:List (Nat×List Nat)→Nat→List Nat
 |[],_=>[]
 |(k,s)::r,t=>bif Nat.beq k t then s else Kh r t
def Ki:List (Nat×Nat)→Nat→Nat
 |[],_=>0
 |(k,s)::r,t=>bif Nat.beq k t then s else Ki r t
def kk (n:Nat):Nat:=n
def gv (n:Nat):Bool:=bp [108,157,47,72,75,76,77,101,126,127,128,141] n
def frs (n:Nat):Bool:=bp [59,69,70,74,108,156,157,170,131,132,174,137,138,187,140] n
def NO:List (Nat×Nat):=[(59,60),(69,4),(70,9),(74,40),(108,60),(156,58),(157,58),(170,5),(131,5),(132,5),(174,5),(137,5),(138,5)]
def Eo:List (Nat×FloatKind)→Nat→Option FloatKind
 |[],_=>none
 |(k,s)::r,t=>bif Nat.beq k t then some s else Eo r t
def G3:List (Nat×FloatKind):=[(215,.f64)]
theorem G4: ∀t k,Eo G3 t=some k→Tryz.prog.underlying t=some (.float k):=by
 intro t k h
 unfold G3 at h
 simp only [Eo] at h
 cases hb:Nat.beq 215 t with
 |true=>
  rw [hb] at h
  have ht:=Nat.eq_of_beq_eq_true hb
  subst ht
  simp only [cond_true,Option.some.injEq] at h
  subst h
  exact Tryz.underlying215
 |false=>
 rw [hb] at h
 simp only [cond_false] at h
 cases h
def G5:List (Nat×(Nat×Bool)):=[(197,(9,false)),(249,(251,false))]
def B9:List (Nat×(Nat×List LK))→Nat→Option (Nat×List LK)
 |[],_=>none
 |(k,s)::r,t=>bif Nat.beq k t then some s else B9 r t
abbrev Wo:List LK:=[.k (.i .i64),.k (.i .i64),.k (.i .i64),.k (.i .i64),.k (.b),.k (.i .i64),.k (.s),.k (.l),.k (.l),.k (.i .i64),.k (.i .i64),.k (.l),.k (.l),.k (.l),.k (.b),.k (.s),.k (.l),.k (.i .i64)]
abbrev Wp:List LK:=[.k (.i .i64),.k (.i .i64),.k (.l),.k (.l),.k (.l),.k (.l)]
abbrev Ca:List LK:=[.k (.i .i64),.k (.i .i64),.k (.l),.k (.l),.own 2000004 40 false,.k (.l)]
abbrev G6:List LK:=[.k (.i .i64),.k (.i .i64),.k (.l),.k (.l),.k (.l),.k (.b),.k (.s)]
abbrev G7:List LK:=[.k (.l),.k (.i .i64)]
def Ir:List (Nat×(Nat×List LK)):=[(47,(0,Wo)),(72,(0,Wp)),(75,(0,Ca)),(76,(0,Ca)),(77,(0,Ca)),(101,(1,G6)),(126,(0,G7)),(127,(0,G7)),(128,(0,G7)),(141,(0,Ca))]
def dl (n:Nat):Bool:=bp [] n
def cx:Ctx:=⟨rJ DV,kk,fun _ _=>none,gv,frs,Ki NO,B9 Ir,[],0,[],[],fun _=>[],Eo G3,zM G5,fun _=>[],fun _=>default,fun _=>default,fun _=>default,dl,[]⟩
def IY (g:Nat→List MV→Option MV) (par:List (Nat×Nat)) (n:Nat) (bs fl:List Nat) (fz ord:List (Nat×List Nat)) (xu wP sF:List (Nat×mI)) (dyn:List Nat):Ctx:=⟨rJ DV,kk,g,gv,frs,Ki NO,B9 Ir,par,n,bs,fl,Kh fz,Eo G3,zM G5,Kh ord,En xu,En wP,En sF,dl,dyn⟩
theorem Kj:tL Tryz.prog cx:=DZ (l:=G5) (by kernel_rfl) (fun _ _ h=>h)
def kc (t:Nat):TI:=match rJ DV t with|some I=>I|none=>⟨false,0,0,[],[],[],[],0,[]⟩
theorem tv4:cx.tv 4=some (kc 4):=by kernel_rfl
theorem tv9:cx.tv 9=some (kc 9):=by kernel_rfl
theorem ags:cx.tv 24=some (kc 24):=by kernel_rfl
theorem agt:cx.tv 25=some (kc 25):=by kernel_rfl
theorem abQ:cx.tv 31=some (kc 31):=by kernel_rfl
theorem abR:cx.tv 38=some (kc 38):=by kernel_rfl
theorem agu:cx.tv 40=some (kc 40):=by kernel_rfl
theorem abS:cx.tv 58=some (kc 58):=by kernel_rfl
theorem abT:cx.tv 60=some (kc 60):=by kernel_rfl
theorem agv:cx.tv 82=some (kc 82):=by kernel_rfl
theorem z7:pk Tryz.prog cx:=by
 intro n hn
 unfold cx dl bp at hn
 cases hn
abbrev GT:=Nat→List MV→Option MV
abbrev SG (g:GT):Prop:=cR Tryz.prog cx g
theorem X1 {g:GT} (h:SG g):SG (bD 59 (gZ 6 72) g):=h.L7 (fun _=>rfl) (fun ms r hr=>by
 obtain ⟨xs,rfl,rfl,h1,h2⟩:=oU hr
 exact vK (P:=Tryz.prog) (c:=cx) (f:=59) (fn:=Tryz.f59) (t:=38) (I:=kc 38) (E:=kc 60) (i0:=0) (i1:=1) (i2:=2) (i3:=3) (oA:=gx Tryz.f59 gy 0) (oB:=gx Tryz.f59 gy 1) (oC:=gx Tryz.f59 gy 2) (oD:=gx Tryz.f59 gy 3) (oE:=gx Tryz.f59 gy 4) (oF:=gx Tryz.f59 gy 5) (oG:=gx Tryz.f59 gy 6) (oH:=gx Tryz.f59 gy 7) nY abR (by kernel_rfl) abT (Nat.le_of_ble_eq_true (by kernel_rfl)) (by kernel_rfl) (by kernel_rfl) Tryz.func59 (by kernel_rfl) (by kernel_rfl) (by kernel_rfl) (by kernel_rfl)
  ⟨by kernel_rfl,by kernel_rfl,by kernel_rfl⟩ ⟨by kernel_rfl,by kernel_rfl,by kernel_rfl⟩ ⟨by kernel_rfl,by kernel_rfl,by kernel_rfl⟩ ⟨by kernel_rfl,by kernel_rfl,by kernel_rfl⟩ ⟨by kernel_rfl,by kernel_rfl,by kernel_rfl⟩ ⟨by kernel_rfl,by kernel_rfl,by kernel_rfl⟩ ⟨by kernel_rfl,by kernel_rfl,by kernel_rfl⟩ ⟨by kernel_rfl,by kernel_rfl,by kernel_rfl⟩ (by rw [show (kc 60).size=6 by kernel_rfl];exact h1) (by rw [show (kc 60).bytes=72 by kernel_rfl];exact h2))
theorem X2 {g:GT} (h:SG g):SG (bD 69 (gZ 1 1) g):=h.L7 (fun _=>rfl) (fun ms r hr=>by
 obtain ⟨xs,rfl,rfl,h1,h2⟩:=oU hr
 exact vK (P:=Tryz.prog) (c:=cx) (f:=69) (fn:=Tryz.f69) (t:=24) (I:=kc 24) (E:=kc 4) (i0:=0) (i1:=1) (i2:=2) (i3:=3) (oA:=gx Tryz.f69 gy 0) (oB:=gx Tryz.f69 gy 1) (oC:=gx Tryz.f69 gy 2) (oD:=gx Tryz.f69 gy 3) (oE:=gx Tryz.f69 gy 4) (oF:=gx Tryz.f69 gy 5) (oG:=gx Tryz.f69 gy 6) (oH:=gx Tryz.f69 gy 7) nY ags (by kernel_rfl) tv4 (Nat.le_of_ble_eq_true (by kernel_rfl)) (by kernel_rfl) (by kernel_rfl) Tryz.func69 (by kernel_rfl) (by kernel_rfl) (by kernel_rfl) (by kernel_rfl)
  ⟨by kernel_rfl,by kernel_rfl,by kernel_rfl⟩ ⟨by kernel_rfl,by kernel_rfl,by kernel_rfl⟩ ⟨by kernel_rfl,by kernel_rfl,by kernel_rfl⟩ ⟨by kernel_rfl,by kernel_rfl,by kernel_rfl⟩ ⟨by kernel_rfl,by kernel_rfl,by kernel_rfl⟩ ⟨by kernel_rfl,by kernel_rfl,by kernel_rfl⟩ ⟨by kernel_rfl,by kernel_rfl,by kernel_rfl⟩ ⟨by kernel_rfl,by kernel_rfl,by kernel_rfl⟩ (by rw [show (kc 4).size=1 by kernel_rfl];exact h1) (by rw [show (kc 4).bytes=1 by kernel_rfl];exact h2))
theorem X3 {g:GT} (h:SG g):SG (bD 70 (gZ 1 16) g):=h.L7 (fun _=>rfl) (fun ms r hr=>by
 obtain ⟨xs,rfl,rfl,h1,h2⟩:=oU hr
 exact vK (P:=Tryz.prog) (c:=cx) (f:=70) (fn:=Tryz.f70) (t:=25) (I:=kc 25) (E:=kc 9) (i0:=0) (i1:=1) (i2:=2) (i3:=3) (oA:=gx Tryz.f70 gy 0) (oB:=gx Tryz.f70 gy 1) (oC:=gx Tryz.f70 gy 2) (oD:=gx Tryz.f70 gy 3) (oE:=gx Tryz.f70 gy 4) (oF:=gx Tryz.f70 gy 5) (oG:=gx Tryz.f70 gy 6) (oH:=gx Tryz.f70 gy 7) nY agt (by kernel_rfl) tv9 (Nat.le_of_ble_eq_true (by kernel_rfl)) (by kernel_rfl) (by kernel_rfl) Tryz.func70 (by kernel_rfl) (by kernel_rfl) (by kernel_rfl) (by kernel_rfl)
  ⟨by kernel_rfl,by kernel_rfl,by kernel_rfl⟩ ⟨by kernel_rfl,by kernel_rfl,by kernel_rfl⟩ ⟨by kernel_rfl,by kernel_rfl,by kernel_rfl⟩ ⟨by kernel_rfl,by kernel_rfl,by kernel_rfl⟩ ⟨by kernel_rfl,by kernel_rfl,by kernel_rfl⟩ ⟨by kernel_rfl,by kernel_rfl,by kernel_rfl⟩ ⟨by kernel_rfl,by kernel_rfl,by kernel_rfl⟩ ⟨by kernel_rfl,by kernel_rfl,by kernel_rfl⟩ (by rw [show (kc 9).size=1 by kernel_rfl];exact h1) (by rw [show (kc 9).bytes=16 by kernel_rfl];exact h2))
theorem X4 {g:GT} (h:SG g):SG (bD 74 (gZ 18 256) g):=h.L7 (fun _=>rfl) (fun ms r hr=>by
 obtain ⟨xs,rfl,rfl,h1,h2⟩:=oU hr
 exact vK (P:=Tryz.prog) (c:=cx) (f:=74) (fn:=Tryz.f74) (t:=82) (I:=kc 82) (E:=kc 40) (i0:=0) (i1:=1) (i2:=2) (i3:=3) (oA:=gx Tryz.f74 gy 0) (oB:=gx Tryz.f74 gy 1) (oC:=gx Tryz.f74 gy 2) (oD:=gx Tryz.f74 gy 3) (oE:=gx Tryz.f74 gy 4) (oF:=gx Tryz.f74 gy 5) (oG:=gx Tryz.f74 gy 6) (oH:=gx Tryz.f74 gy 7) nY agv (by kernel_rfl) agu (Nat.le_of_ble_eq_true (by kernel_rfl)) (by kernel_rfl) (by kernel_rfl) Tryz.func74 (by kernel_rfl) (by kernel_rfl) (by kernel_rfl) (by kernel_rfl)
  ⟨by kernel_rfl,by kernel_rfl,by kernel_rfl⟩ ⟨by kernel_rfl,by kernel_rfl,by kernel_rfl⟩ ⟨by kernel_rfl,by kernel_rfl,by kernel_rfl⟩ ⟨by kernel_rfl,by kernel_rfl,by kernel_rfl⟩ ⟨by kernel_rfl,by kernel_rfl,by kernel_rfl⟩ ⟨by kernel_rfl,by kernel_rfl,by kernel_rfl⟩ ⟨by kernel_rfl,by kernel_rfl,by kernel_rfl⟩ ⟨by kernel_rfl,by kernel_rfl,by kernel_rfl⟩ (by rw [show (kc 40).size=18 by kernel_rfl];exact h1) (by rw [show (kc 40).bytes=256 by kernel_rfl];exact h2))
theorem X5:GP Tryz.prog 108 38 3 4 60 163 Tryz.f108 (fun k=>k) (gx Tryz.f108 gy) (NH (gx Tryz.f108 gy)):=by
 refine ⟨Tryz.func108,by kernel_rfl,by kernel_rfl,by kernel_rfl,by kernel_rfl,?_,vX,by kernel_rfl⟩
 constructor<;>first|exact ⟨by kernel_rfl,by kernel_rfl,by kernel_rfl⟩|kernel_rfl
theorem abU: ∀args w,(callFunc 163 args).run Tryz.prog w=((Extern.SlicesOverlaps.overlaps #[38,38] #[4] args).run Tryz.prog w).andThen fun v w'=> .ok (.value v) w':=fun args w=>run_callFunc_extern Tryz.func163 (by kernel_rfl) (by kernel_rfl) (by kernel_rfl) (e:=Extern.SlicesOverlaps.overlaps #[38,38] #[4]) (by kernel_rfl) args w
theorem Vc {g:GT} (h:SG g):SG (bD 108 (mP 72) g):=h.L7 (fun _=>rfl) (fun ms r hr=>by
 obtain ⟨xs,ys,i,rfl,rfl,h1,h2,h3⟩:=zU hr
 exact GR (P:=Tryz.prog) (c:=cx) (I:=kc 38) (E:=kc 60) X5 nY abR (by kernel_rfl) abT (Nat.le_of_ble_eq_true (by kernel_rfl)) (by kernel_rfl) (by kernel_rfl) (by kernel_rfl) (by kernel_rfl) abU h1 h2 (by rw [show (kc 60).bytes=72 by kernel_rfl];exact h3))
theorem Vd {g:GT} (h:SG g):SG (bD 156 (gZ 3 32) g):=h.L7 (fun _=>rfl) (fun ms r hr=>by
 obtain ⟨xs,rfl,rfl,h1,h2⟩:=oU hr
 exact vK (P:=Tryz.prog) (c:=cx) (f:=156) (fn:=Tryz.f156) (t:=31) (I:=kc 31) (E:=kc 58) (i0:=0) (i1:=1) (i2:=2) (i3:=3) (oA:=gx Tryz.f156 gy 0) (oB:=gx Tryz.f156 gy 1) (oC:=gx Tryz.f156 gy 2) (oD:=gx Tryz.f156 gy 3) (oE:=gx Tryz.f156 gy 4) (oF:=gx Tryz.f156 gy 5) (oG:=gx Tryz.f156 gy 6) (oH:=gx Tryz.f156 gy 7) nY abQ (by kernel_rfl) abS (Nat.le_of_ble_eq_true (by kernel_rfl)) (by kernel_rfl) (by kernel_rfl) Tryz.func156 (by kernel_rfl) (by kernel_rfl) (by kernel_rfl) (by kernel_rfl)
  ⟨by kernel_rfl,by kernel_rfl,by kernel_rfl⟩ ⟨by kernel_rfl,by kernel_rfl,by kernel_rfl⟩ ⟨by kernel_rfl,by kernel_rfl,by kernel_rfl⟩ ⟨by kernel_rfl,by kernel_rfl,by kernel_rfl⟩ ⟨by kernel_rfl,by kernel_rfl,by kernel_rfl⟩ ⟨by kernel_rfl,by kernel_rfl,by kernel_rfl⟩ ⟨by kernel_rfl,by kernel_rfl,by kernel_rfl⟩ ⟨by kernel_rfl,by kernel_rfl,by kernel_rfl⟩ (by rw [show (kc 58).size=3 by kernel_rfl];exact h1) (by rw [show (kc 58).bytes=32 by kernel_rfl];exact h2))
theorem X6:GP Tryz.prog 157 31 3 4 58 181 Tryz.f157 (fun k=>k) (gx Tryz.f157 gy) (NH (gx Tryz.f157 gy)):=by
 refine ⟨Tryz.func157,by kernel_rfl,by kernel_rfl,by kernel_rfl,by kernel_rfl,?_,vX,by kernel_rfl⟩
 constructor<;>first|exact ⟨by kernel_rfl,by kernel_rfl,by kernel_rfl⟩|kernel_rfl
theorem abV: ∀args w,(callFunc 181 args).run Tryz.prog w=((Extern.SlicesOverlaps.overlaps #[31,31] #[4] args).run Tryz.prog w).andThen fun v w'=> .ok (.value v) w':=fun args w=>run_callFunc_extern Tryz.func181 (by kernel_rfl) (by kernel_rfl) (by kernel_rfl) (e:=Extern.SlicesOverlaps.overlaps #[31,31] #[4]) (by kernel_rfl) args w
theorem Ve {g:GT} (h:SG g):SG (bD 157 (mP 32) g):=h.L7 (fun _=>rfl) (fun ms r hr=>by
 obtain ⟨xs,ys,i,rfl,rfl,h1,h2,h3⟩:=zU hr
 exact GR (P:=Tryz.prog) (c:=cx) (I:=kc 31) (E:=kc 58) X6 nY abQ (by kernel_rfl) abS (Nat.le_of_ble_eq_true (by kernel_rfl)) (by kernel_rfl) (by kernel_rfl) (by kernel_rfl) (by kernel_rfl) abV h1 h2 (by rw [show (kc 58).bytes=32 by kernel_rfl];exact h3))
noncomputable def H59:GT:=bD 59 (gZ 6 72) (fun _ _=>none)
theorem Sk:SG H59:=X1 (cR.none _ _)
noncomputable def H69:GT:=bD 69 (gZ 1 1) H59
theorem Sl:SG H69:=X2 Sk
noncomputable def H70:GT:=bD 70 (gZ 1 16) H69
theorem Sn:SG H70:=X3 Sl
noncomputable def H74:GT:=bD 74 (gZ 18 256) H70
theorem So:SG H74:=X4 Sn
noncomputable def abW:GT:=bD 108 (mP 72) H74
theorem Pg:SG abW:=Vc So
noncomputable def abX:GT:=bD 156 (gZ 3 32) abW
theorem Pj:SG abX:=Vd Pg
noncomputable def abY:GT:=bD 157 (mP 32) abX
theorem Pk:SG abY:=Ve Pj
abbrev Wq:List LK:=[.k (.i .i64),.k (.i .i64),.k (.l),.k (.l),.own 2000004 40 false,.k (.l)]
def CX:List (Nat×(Nat×List LK)):=(72,(0,Wq))::Ir
def NP:Ctx:=⟨rJ DV,kk,fun _ _=>none,gv,frs,Ki NO,B9 CX,[],0,[],[],fun _=>[],Eo G3,zM G5,fun _=>[],fun _=>default,fun _=>default,fun _=>default,dl,[]⟩
def X7 (g:GT) (par:List (Nat×Nat)) (n:Nat) (bs fl:List Nat) (fz ord:List (Nat×List Nat)) (xu wP sF:List (Nat×mI)) (dyn:List Nat):Ctx:=⟨rJ DV,kk,g,gv,frs,Ki NO,B9 CX,par,n,bs,fl,Kh fz,Eo G3,zM G5,Kh ord,En xu,En wP,En sF,dl,dyn⟩
theorem X8:tL Tryz.prog NP:=DZ (l:=G5) (by kernel_rfl) (fun _ _ h=>h)
theorem Sp:pk Tryz.prog NP:=by
 intro n hn
 unfold NP dl bp at hn
 cases hn
theorem Sq:B4 72 cx NP:=⟨rfl,rfl,rfl,rfl,rfl,fun k hk=>by
 show B9 CX k=B9 Ir k
 unfold CX B9
 rw [show Nat.beq 72 k=false from by
  cases hb:Nat.beq 72 k with
  |false=>rfl
  |true=>exact absurd (Nat.eq_of_beq_eq_true hb).symm hk]
 rfl⟩
theorem X9:B4 72 NP cx:=⟨rfl,rfl,rfl,rfl,rfl,fun k hk=>(Sq.sig k hk).symm⟩
theorem zj {g:GT} (s:SG g) (cG:List (List Kd)) (par:List (Nat×Nat)) (tn:Nat) (bs fl:List Nat) (fz ord:List (Nat×List Nat)) (xu wP sF:List (Nat×mI)) (dyn:List Nat) {n:Nat} {fn:Func} {F:List MV→Option MV} (hf:Tryz.prog.funcs[n]? =some fn)
 (hh:xV (IY g par tn bs fl fz ord xu wP sF dyn) n fn cG=true) (hF: ∀{ms r},F ms=some r→Gk (IY g par tn bs fl fz ord xu wP sF dyn) cG none fn ms=some r):SG (bD n F g):=
 s.fn (c':=IY g par tn bs fl fz ord xu wP sF dyn) ⟨rfl,rfl,rfl,rfl,rfl,rfl,rfl,rfl,rfl⟩ rfl nY G0 G4 Kj vX z7 hf hh (fun _=>rfl) (fresh:=none) rfl hF
theorem pE {g:GT} (s:SG g) (cG:List (List Kd)) (tn:Nat) (xu wP sF:List (Nat×mI)) {n:Nat} {fn:Func} {F:List MV→Option MV} (hf:Tryz.prog.funcs[n]? =some fn)
 (hh:xV (IY g [] tn [] [] [] [] xu wP sF []) n fn cG=true) (hF: ∀{ms r},F ms=some r→Gk (IY g [] tn [] [] [] [] xu wP sF []) cG none fn ms=some r):SG (bD n F g):=zj s cG [] tn [] [] [] [] xu wP sF [] hf hh hF
theorem UO {g:GT} (s:SG g) (pos:Nat) (ks:List LK) (cG:List (List Kd)) (par:List (Nat×Nat)) (tn:Nat) (bs fl:List Nat) (fz ord:List (Nat×List Nat)) (xu wP sF:List (Nat×mI)) (dyn:List Nat) {n:Nat} {fn:Func} {F:List MV→Option MV} (hf:Tryz.prog.funcs[n]? =some fn) (hs:cx.sig n=some (pos,ks))
 (hh:JV (IY g par tn bs fl fz ord xu wP sF dyn) n fn cG=true) (hF: ∀{ms r},F ms=some r→zn (IY g par tn bs fl fz ord xu wP sF dyn) cG pos ks fn ms=some r):SG (bD n F g):=
 s.UO nY G0 G4 Kj vX z7 hf hs (fun _=>rfl) fun h=>⟨IY g par tn bs fl fz ord xu wP sF dyn,⟨rfl,rfl,rfl,rfl,rfl,rfl,rfl,rfl,rfl⟩,rfl,hh,hF h⟩
theorem Sr {g:GT} (s:cR Tryz.prog NP g) (pos:Nat) (ks:List LK) (cG:List (List Kd)) (par:List (Nat×Nat)) (tn:Nat) (bs fl:List Nat) (fz ord:List (Nat×List Nat)) (xu wP sF:List (Nat×mI)) (dyn:List Nat) {n:Nat} {fn:Func} {F:List MV→Option MV} (hf:Tryz.prog.funcs[n]? =some fn) (hs:NP.sig n=some (pos,ks))
 (hh:JV (X7 g par tn bs fl fz ord xu wP sF dyn) n fn cG=true) (hF: ∀{ms r},F ms=some r→zn (X7 g par tn bs fl fz ord xu wP sF dyn) cG pos ks fn ms=some r):cR Tryz.prog NP (bD n F g):=
 s.UO nY G0 G4 X8 vX Sp hf hs (fun _=>rfl) fun h=>⟨X7 g par tn bs fl fz ord xu wP sF dyn,⟨rfl,rfl,rfl,rfl,rfl,rfl,rfl,rfl,rfl⟩,rfl,hh,hF h⟩
theorem fnF {g:GT} (s:SG g) (ty:Nat) (cG:List (List Kd)) (par:List (Nat×Nat)) (tn:Nat) (bs fl:List Nat) (fz ord:List (Nat×List Nat)) (xu wP sF:List (Nat×mI)) (dyn:List Nat) {n:Nat} {fn:Func} {F:List MV→Option MV} (hf:Tryz.prog.funcs[n]? =some fn)
 (hh:xV (IY g par tn bs fl fz ord xu wP sF dyn) n fn cG=true) (Cu:yE (IY g par tn bs fl fz ord xu wP sF dyn) n fn (some ty)=true) (hF: ∀{ms r},F ms=some r→Gk (IY g par tn bs fl fz ord xu wP sF dyn) cG (some ty) fn ms=some r):SG (bD n F g):=
 s.fn (c':=IY g par tn bs fl fz ord xu wP sF dyn) ⟨rfl,rfl,rfl,rfl,rfl,rfl,rfl,rfl,rfl⟩ rfl nY G0 G4 Kj vX z7 hf hh (fun _=>rfl) Cu hF
theorem fnX {g:GT} (s:SG g) (cG:List (List Kd)) (par:List (Nat×Nat)) (tn:Nat) (bs fl:List Nat) (fz ord:List (Nat×List Nat)) (xu wP sF:List (Nat×mI)) (dyn:List Nat) {n:Nat} {fn:Func} {F:List MV→Option MV} (hf:Tryz.prog.funcs[n]? =some fn)
 (hh:xV (IY g par tn bs fl fz ord xu wP sF dyn) n fn cG=true) (hF: ∀{ms r},F ms=some r→J0 (IY g par tn bs fl fz ord xu wP sF dyn) cG none fn ms=some r):SG (bD n F g):=
 s.fnX (c':=IY g par tn bs fl fz ord xu wP sF dyn) ⟨rfl,rfl,rfl,rfl,rfl,rfl,rfl,rfl,rfl⟩ rfl nY G0 G4 Kj vX z7 hf hh (fun _=>rfl) (fresh:=none) rfl hF
abbrev cl1 (d:List MV→Option MV):List MV→Option MV:=fun ms=>match ms with|[.cell (.func off a0)]=>(match Nat.beq off 0 with|true=>d a0|false=>none)|_=>none
theorem Md {d:List MV→Option MV} {B:List MV→Option MV} (h: ∀a0,B [.cell (.func 0 a0)]=d a0) {ms:List MV} {r:MV} (e:cl1 d ms=some r):B ms=some r:=by
 unfold cl1 at e
 split at e
 ·rename_i off a0
  cases ho:Nat.beq off 0 with
  |true=>
   have:=Nat.eq_of_beq_eq_true ho
   subst this
   exact (h _).trans e
  |false=>rw [ho] at e;cases e
 ·cases e
abbrev cl2 (d:List MV→MV→Option MV):List MV→Option MV:=fun ms=>match ms with|[.cell (.func off a0),a1]=>(match Nat.beq off 0 with|true=>d a0 a1|false=>none)|_=>none
theorem Mf {d:List MV→MV→Option MV} {B:List MV→Option MV} (h: ∀a0 a1,B [.cell (.func 0 a0),a1]=d a0 a1) {ms:List MV} {r:MV} (e:cl2 d ms=some r):B ms=some r:=by
 unfold cl2 at e
 split at e
 ·rename_i off a0 a1
  cases ho:Nat.beq off 0 with
  |true=>
   have:=Nat.eq_of_beq_eq_true ho
   subst this
   exact (h _ _).trans e
  |false=>rw [ho] at e;cases e
 ·cases e
abbrev cl3 (d:List MV→MV→MV→Option MV):List MV→Option MV:=fun ms=>match ms with|[.cell (.func off a0),a1,a2]=>(match Nat.beq off 0 with|true=>d a0 a1 a2|false=>none)|_=>none
theorem Ss {d:List MV→MV→MV→Option MV} {B:List MV→Option MV} (h: ∀a0 a1 a2,B [.cell (.func 0 a0),a1,a2]=d a0 a1 a2) {ms:List MV} {r:MV} (e:cl3 d ms=some r):B ms=some r:=by
 unfold cl3 at e
 split at e
 ·rename_i off a0 a1 a2
  cases ho:Nat.beq off 0 with
  |true=>
   have:=Nat.eq_of_beq_eq_true ho
   subst this
   exact (h _ _ _).trans e
  |false=>rw [ho] at e;cases e
 ·cases e
abbrev cl4 (d:List MV→MV→MV→MV→Option MV):List MV→Option MV:=fun ms=>match ms with|[.cell (.func off a0),a1,a2,a3]=>(match Nat.beq off 0 with|true=>d a0 a1 a2 a3|false=>none)|_=>none
theorem Su {d:List MV→MV→MV→MV→Option MV} {B:List MV→Option MV} (h: ∀a0 a1 a2 a3,B [.cell (.func 0 a0),a1,a2,a3]=d a0 a1 a2 a3) {ms:List MV} {r:MV} (e:cl4 d ms=some r):B ms=some r:=by
 unfold cl4 at e
 split at e
 ·rename_i off a0 a1 a2 a3
  cases ho:Nat.beq off 0 with
  |true=>
   have:=Nat.eq_of_beq_eq_true ho
   subst this
   exact (h _ _ _ _).trans e
  |false=>rw [ho] at e;cases e
 ·cases e
noncomputable def xm (a a1:MV):Option MV:=
 gA a fun cs=>
 gC cs fun m u5=>
 gI .i64 m fun SF=>
 gC u5 fun m1 sn=>
 gI .i64 m1 fun ST=>
 gC sn fun m2 na=>
 gL m2 fun cV=>
 gC na fun m3 yR=>
 gL m3 fun Want=>
 gN yR<|
 gL a1 fun jm=>
 bd (
 bk (decide ((2:Int)<SF)) (
 some [.b true]) (
 bQ cV fun len=>
 bk (decide ((30:Int)<(len:Int))) (
 some [.b true]) (
 bQ Want fun eR=>
 bk (decide ((30:Int)<(eR:Int))) (
 some [.b true]) (
 bQ jm fun nG=>
 some [.b (decide ((80:Int)<(nG:Int)))])))) fun vs=>
 gC vs fun m4 yS=>
 gB m4 fun x=>
 gN yS<|
 bk x (
 some (.b false)) (
 bd (Loop (fun yT=>
 gC yT fun m5 Ep=>
 gI .i64 m5 fun x1=>
 gN Ep<|
 bQ Want fun v8=>
 bk (decide (x1<(v8:Int))) (
 idx Want x1 fun y=>
 gS y fun x2=>
 bk (decide ((200:Int)<(x2.length:Int))) (
 some (.inr (1,[.b false]))) (
 some (.inl [.i .i64 (IntKind.wrap .i64 (x1+1))]))) (
 some (.inr (2,[])))) [.i .i64 0]) fun p=>
 bk (Nat.beq p.1 2) (
 gN p.2<|
 bd (Loop (fun wa=>
 gC wa fun m6 ug=>
 gI .i64 m6 fun x3=>
 gN ug<|
 bQ jm fun Bk=>
 bk (decide (x3<(Bk:Int))) (
 idx jm x3 fun y1=>
 gA y1 fun fg=>
 gC fg fun m7 pv=>
 gI .i64 m7 fun Kind=>
 gC pv fun m8 qO=>
 gI .i64 m8 fun I=>
 gC qO fun m9 s4=>
 gI .i64 m9 fun J=>
 cf s4 fun Sv Sw Sx Is G8 It Bl uh Iu Ya Sy Sz Mg CY CZ=>
 bd (
 bk (decide ((200:Int)<(Is.length:Int))) (
 some [.b true]) (
 bk (decide ((200:Int)<(uh.length:Int))) (
 some [.b true]) (
 bQ Iu fun yU=>
 bk (decide ((30:Int)<(yU:Int))) (
 some [.b true]) (
 bQ G8 fun Kk=>
 bk (decide ((30:Int)<(Kk:Int))) (
 some [.b true]) (
 bk (decide ((200:Int)<(CY.length:Int))) (
 some [.b true]) (
 bQ CZ fun Yb=>
 some [.b (decide ((30:Int)<(Yb:Int)))])))))) fun jC=>
 gC jC fun m25 Er=>
 gB m25 fun x4=>
 gN Er<|
 bk x4 (
 some (.inr (1,[.b false]))) (
 bd (Loop (fun Es=>
 gC Es fun Yc Kl=>
 gI .i64 Yc fun x5=>
 gN Kl<|
 bQ G8 fun Vf=>
 bk (decide (x5<(Vf:Int))) (
 idx G8 x5 fun y2=>
 gA y2 fun nF=>
 fm nF fun By mc Has View Value Proof=>
 bQ Proof fun Yd=>
 bk (decide ((30:Int)<(Yd:Int))) (
 some (.inr (1,[.b false]))) (
 some (.inl [.i .i64 (IntKind.wrap .i64 (x5+1))]))) (
 some (.inr (6,[])))) [.i .i64 0]) fun p4=>
 bk (Nat.beq p4.1 6) (
 gN p4.2<|
 some (.inl [.i .i64 (IntKind.wrap .i64 (x3+1))])) (
 cb (Nat.beq p4.1 1)<|
 gC p4.2 fun m33 SA=>
 gB m33 fun x6=>
 gN SA<|
 some (.inr (1,[.b x6]))))) (
 some (.inr (4,[])))) [.i .i64 0]) fun p3=>
 bk (Nat.beq p3.1 4) (
 gN p3.2<|
 some (.b true)) (
 cb (Nat.beq p3.1 1)<|
 gC p3.2 fun m34 SB=>
 gB m34 fun x7=>
 gN SB<|
 some (.b x7))) (
 cb (Nat.beq p.1 1)<|
 gC p.2 fun m35 ab1=>
 gB m35 fun x8=>
 gN ab1<|
 some (.b x8)))
noncomputable def G9:GT:=bD 8 (hM xm) abY
theorem FU:SG G9:=pE Pk [] 107 [(12,⟨[1,6,7],[],[],[(0,[(91,.sc (.k .b))])],[]⟩),(1,⟨[1,2],[],[],[(0,[(29,.sc (.k .b))])],[]⟩)] [] [(15,⟨[1,6,7],[],[(8,.sc (.k (.i .i64)))],[(1,[(4,.sc (.k .b))]),(6,[])],[]⟩),(9,⟨[1],[],[(6,.sc (.k (.i .i64)))],[(1,[(4,.sc (.k .b))]),(4,[])],[]⟩),(4,⟨[1,2],[],[(5,.sc (.k (.i .i64)))],[(1,[(4,.sc (.k .b))]),(2,[])],[]⟩)] Tryz.func8 (by kernel_rfl) (bU (fun _ _=>by kernel_rfl))
noncomputable def ot (sA:MV):Option MV:=
 gA sA fun cs=>
 zi cs fun F T=>
 some (.raw (.complex .f64 (FloatKind.nearest .f64 F) (FloatKind.nearest .f64 T)))
noncomputable def ya:GT:=bD 139 (oV ot) G9
theorem z8:SG ya:=pE FU [] 10 [] [] [] Tryz.func139 (by kernel_rfl) (dY (fun _=>by kernel_rfl))
noncomputable def gM (sA times:MV):Option MV:=
 gA sA fun cs=>
 zi cs fun F T=>
 gR times fun SC=>
 bd (ot (.agg [.i .i64 F,.i .i64 T])) fun rA=>
 gR rA fun x=>
 TH x fun re im=>
 TH SC fun re1 im1=>
 bd (FloatKind.f64.format.mul re re1) fun f=>
 TH x fun re2 im2=>
 TH SC fun re3 im3=>
 bd (FloatKind.f64.format.mul im2 im3) fun f1=>
 bd (FloatKind.f64.format.add f f1) fun f2=>
 bd ((FloatKind.decode .f64 f2).toInt .zero) fun n=>
 cb (decide (IntKind.min .i64≤n∧n≤IntKind.max .i64))<|
 some (.i .i64 (IntKind.wrap .i64 (n+1)))
noncomputable def Cb:GT:=bD 71 (hM gM) ya
theorem CB:SG Cb:=pE z8 [] 21 [] [] [] Tryz.func71 (by kernel_rfl) (bU (fun _ _=>by kernel_rfl))
noncomputable def nZ (sA:MV):Option MV:=
 gA sA fun cs=>
 zi cs fun F T=>
 bd (gM (.agg [.i .i64 F,.i .i64 T]) (.raw (.complex .f64 4613937818241073152 4611686018427387904))) fun rA=>
 gI .i64 rA fun x=>
 some (.i .i64 x)
noncomputable def SD:GT:=bD 27 (oV nZ) Cb
theorem Mh:SG SD:=pE CB [] 5 [] [] [] Tryz.func27 (by kernel_rfl) (dY (fun _=>by kernel_rfl))
noncomputable def jn (sA:MV):Option MV:=
 gA sA fun cs=>
 zi cs fun F T=>
 bd (
 bk (decide ((1:Int)≤F)) (
 bk (decide (F≤5)) (
 bk (decide ((0:Int)≤T)) (
 some [.b (decide (T≤F))]) (
 some [.b false])) (
 some [.b false])) (
 some [.b false])) fun vs=>
 gC vs fun m2 na=>
 gB m2 fun x=>
 gN na<|
 some (.b x)
noncomputable def Et:GT:=bD 68 (oV jn) SD
theorem Eu:SG Et:=pE Mh [] 23 [(1,⟨[1],[],[],[(0,[(2,.sc (.k .b))])],[]⟩)] [] [] Tryz.func68 (by kernel_rfl) (dY (fun _=>by kernel_rfl))
noncomputable def nb (sA me:MV):Option MV:=
 gA sA fun cs=>
 zi cs fun F T=>
 gI .i64 me fun Zw=>
 bd (
 bd (jn (.agg [.i .i64 F,.i .i64 T])) fun rA=>
 gB rA fun x=>
 bk (!x) (
 some [.b true]) (
 bk (decide (Zw<0)) (
 some [.b true]) (
 bd (nZ (.agg [.i .i64 F,.i .i64 T])) fun aY=>
 gI .i64 aY fun x1=>
 some [.b (decide (x1≤Zw))]))) fun vs=>
 gC vs fun m2 na=>
 gB m2 fun x2=>
 gN na<|
 bk x2 (
 some (.dr [.agg (cq 0 0 0 0 false 0 ([]:List UInt8) ([]:List MV) ([]:List MV)),.i .i64 1])) (
 some (.dr [.agg (cq F T Zw 0 false 0 ([]:List UInt8) ([]:List MV) ([]:List MV)),.i .i64 0]))
noncomputable def Aa:GT:=bD 35 (hM nb) Et
theorem Bm:SG Aa:=pE Eu [] 23 [(1,⟨[1,2,4],[],[],[(0,[(18,.sc (.k .b))])],[]⟩)] [] [] Tryz.func35 (by kernel_rfl) (bU (fun _ _=>by kernel_rfl))
noncomputable def o6 (sA:MV):Option MV:=
 gA sA fun cs=>
 zi cs fun F T=>
 bd (jn (.agg [.i .i64 F,.i .i64 T])) fun rA=>
 gB rA fun x=>
 bk (!x) (
 some (.dr [.agg (cj 0 0 ([]:List MV) ([]:List MV) ([]:List MV) false ([]:List UInt8)),.i .i64 1])) (
 some (.dr [.agg (cj F T ([]:List MV) ([]:List MV) ([]:List MV) false ([]:List UInt8)),.i .i64 0]))
noncomputable def Cc:GT:=bD 36 (oV o6) Aa
theorem CC:SG Cc:=pE Bm [] 10 [] [] [] Tryz.func36 (by kernel_rfl) (dY (fun _=>by kernel_rfl))
noncomputable def ui (sA i:MV):Option MV:=
 gA sA fun cs=>
 zi cs fun F T=>
 gI .i64 i fun i1=>
 bd (nb (.agg [.i .i64 F,.i .i64 T]) (.i .i64 i1)) fun rA=>
 gT rA fun vs=>
 gC vs fun m2 na=>
 gA m2 fun fg=>
 fA fg fun SF ST Me View Has At Value Proof fS=>
 gC na fun Bh kG=>
 gI .i64 Bh fun x=>
 gN kG<|
 bk (!decide (x=0)) (
 some (.dr [.agg (aq 0 0 0 0 false 0 ([]:List UInt8) ([]:List MV) ([]:List MV) 0 0 ([]:List MV) ([]:List MV) ([]:List MV) false ([]:List UInt8) ([]:List MV) 0),.i .i64 x])) (
 bd (o6 (.agg [.i .i64 F,.i .i64 T])) fun aY=>
 gT aY fun jC=>
 gC jC fun Io qP=>
 gA Io fun nF=>
 fe nF fun u6 u7 eI eJ nK ch bJ=>
 gC qP fun m21 Ab=>
 gI .i64 m21 fun x1=>
 gN Ab<|
 some (.dr [.agg (aq SF ST Me View Has At Value Proof fS u6 u7 eI eJ nK ch bJ ([]:List MV) (-1)),.i .i64 x1]))
noncomputable def Ew:GT:=bD 10 (hM ui) Cc
theorem Ex:SG Ew:=pE CC [] 28 [] [] [] Tryz.func10 (by kernel_rfl) (bU (fun _ _=>by kernel_rfl))
noncomputable def wb (a a1 a2:MV):Option MV:=
 gA a fun cs=>
 zi cs fun F T=>
 gL a1 fun jm=>
 gL a2 fun Mi=>
 bd (
 bd (jn (.agg [.i .i64 F,.i .i64 T])) fun rA=>
 gB rA fun x=>
 bk (!x) (
 some [.b true]) (
 bQ jm fun len=>
 bd (nZ (.agg [.i .i64 F,.i .i64 T])) fun aY=>
 gI .i64 aY fun x1=>
 bk (!decide ((len:Int)=x1)) (
 some [.b true]) (
 bQ Mi fun eR=>
 bQ jm fun nG=>
 some [.b (!decide ((eR:Int)=(nG:Int)))]))) fun vs=>
 gC vs fun m2 na=>
 gB m2 fun x2=>
 gN na<|
 bk x2 (
 some (.dr [.agg (aR 0 0 ([]:List MV) ([]:List MV) ([]:List MV) ([]:List MV)),.i .i64 1])) (
 bd (gZ 1 1 [.list jm]) fun b7=>
 gF b7 fun xs=>
 bd (gZ 1 16 [.list Mi]) fun cu=>
 gF cu fun Ey=>
 bQ jm fun v8=>
 bd (Loop (fun yR=>
 gC yR fun m3 yS=>
 gI .i64 m3 fun x3=>
 gC yS fun m4 yT=>
 gI .i64 m4 fun x4=>
 gC yT fun m5 Ep=>
 gL m5 fun x5=>
 gC Ep fun m6 wa=>
 gL m6 fun x6=>
 gC wa fun m7 ug=>
 gL m7 fun x7=>
 gC ug fun m8 pv=>
 gL m8 fun x8=>
 gC pv fun m9 qO=>
 gI .i64 m9 fun x9=>
 gC qO fun Kf s4=>
 gI .i64 Kf fun pu=>
 gC s4 fun Kg kG=>
 gL Kg fun Ac=>
 gC kG fun Bh qP=>
 gL Bh fun NQ=>
 gC qP fun Io s5=>
 gL Io fun SE=>
 gC s5 fun Ip s6=>
 gL Ip fun pZ=>
 zi s6 fun qN qp=>
 bk (decide (qp<(v8:Int))) (
 idx jm qp fun y=>
 gB y fun rO=>
 bd (
 bk rO (
 some (0,[.i .i64 (IntKind.wrap .i64 (qN-1))])) (
 some (0,[.i .i64 qN]))) fun p1=>
 cb (Nat.beq p1.1 0)<|
 gC p1.2 fun Bi kH=>
 gI .i64 Bi fun uZ=>
 gN kH<|
 bd (
 idx Mi qp fun y1=>
 gS y1 fun xZ=>
 bk (decide ((6000:Int)<(xZ.length:Int))) (
 some [.b true]) (
 some [.b (decide (uZ<0))])) fun jC=>
 gC jC fun FQ o7=>
 gB FQ fun uQ=>
 gN o7<|
 bk uQ (
 some (.inr (1,(gK 0 0 ([]:List MV) ([]:List MV) ([]:List MV) ([]:List MV) 1)))) (
 bd (ui (.agg [.i .i64 F,.i .i64 T]) (.i .i64 qp)) fun fB=>
 gT fB fun qE=>
 gC qE fun Pl o8=>
 gA Pl fun fg=>
 aT fg fun wc we wg dB kI wh dj dk ck wi wj bE bw dm ew dp iX mE=>
 gC o8 fun m38 Km=>
 gI .i64 m38 fun FR=>
 gN Km<|
 bQ SE fun Bk=>
 bQ ([.agg (aq wc we wg dB kI wh dj dk ck wi wj bE bw dm ew dp iX mE)]:List MV) fun yU=>
 cb (decide ((Bk+yU) *256≤2^46))<|
 some (.inl [.i .i64 x3,.i .i64 x4,.list x5,.list x6,.list x7,.list x8,.i .i64 x9,.i .i64 pu,.list Ac,.list NQ,.list (SE++([.agg (aq wc we wg dB kI wh dj dk ck wi wj bE bw dm ew dp iX mE)]:List MV)),.list pZ,.i .i64 uZ,.i .i64 (IntKind.wrap .i64 (qp+1))]))) (
 some (.inr (2,[.i .i64 x3,.i .i64 x4,.list x5,.list x6,.list x7,.list x8,.i .i64 x9,.i .i64 pu,.list Ac,.list NQ,.list SE,.list pZ])))) [.i .i64 0,.i .i64 0,.list ([]:List MV),.list ([]:List MV),.list ([]:List MV),.list ([]:List MV),.i .i64 F,.i .i64 T,.list xs,.list Ey,.list ([]:List MV),.list ([]:List MV),.i .i64 F,.i .i64 0]) fun p=>
 bk (Nat.beq p.1 2) (
 gC p.2 fun m39 ab3=>
 gI .i64 m39 fun PW=>
 gC ab3 fun m40 ab4=>
 gI .i64 m40 fun NR=>
 gC ab4 fun m41 ab5=>
 gL m41 fun PX=>
 gC ab5 fun m42 Kn=>
 gL m42 fun NS=>
 gC Kn fun m43 ab7=>
 gL m43 fun TE=>
 gC ab7 fun m44 SH=>
 gL m44 fun TF=>
 cw SH fun SI SJ Vg xs6 xs7 SK=>
 some (.dr [.agg (aR SI SJ Vg xs6 xs7 SK),.i .i64 0])) (
 cb (Nat.beq p.1 1)<|
 Em .i64 .i64 .i64 p.2 fun SL SM SN SO SP SQ Vh=>
 some (.dr [.agg (aR SL SM SN SO SP SQ),.i .i64 Vh])))
noncomputable def Ko:GT:=bD 26 (yG wb) Ew
theorem Iv:SG Ko:=zj Ex [] [] 75 [70] [] [] [(3,[0,1,3,2,4,5,6,7])] [(10,⟨[1,2,3,6,8,9,10,40,41],[33,35,71],[],[(0,[(59,.sc (.k .b))])],[33,35,71]⟩),(1,⟨[1,2,3,6],[],[],[(0,[(29,.sc (.k .b))])],[33,35,71]⟩)] [(9,⟨[1,2,3,6,8,10,40,41],[33,35,71],[],[(0,[(9,.sc (.k (.i .i64)))])],[33,35,71]⟩)] [(6,⟨[1,2,3,40],[],[(6,.box [.k (.i .i64),.k (.i .i64),.k .l,.k .l,.k .l,.k .l]),(8,.box [.k (.i .i64),.k (.i .i64),.own 33 4 true,.own 35 9 true,.own 71 40 true,.k .l]),(9,.sc (.k (.i .i64))),(41,.sc (.k (.i .i64)))],[(1,[(6,.box [.k (.i .i64),.k (.i .i64),.k .l,.k .l,.k .l,.k .l]),(7,.sc (.k (.i .i64)))]),(2,[(6,.box [.k (.i .i64),.k (.i .i64),.k .l,.k .l,.k .l,.k .l]),(8,.box [.k (.i .i64),.k (.i .i64),.own 33 4 true,.own 35 9 true,.own 71 40 true,.k .l])])],[33,35,71]⟩)] [] Tryz.func26 (by kernel_rfl) (kU (fun _ _ _=>by kernel_rfl))
noncomputable def qQ (b:MV):Option MV:=
 gL b fun b1=>
 bQ b1 fun len=>
 bk (decide ((len:Int)=0)) (
 some (.dr [.i .u64 0,.list ([]:List MV),.i .i64 2])) (
 idx b1 0 fun y=>
 gI .u8 y fun x=>
 cb (mF 1 b1)<|
 bQ b1 fun eR=>
 cb (decide ((0:Int)≤1∧(1:Int)≤(eR:Int)∧(eR:Int)≤(eR:Int)))<|
 bd (
 bk (decide ((8:Int)<(IntKind.wrap .i64 x))) (
 some [.b true]) (
 bk (decide ((0:Int)<(IntKind.wrap .i64 x))) (
 bQ (List.drop (Int.toNat 1) (List.take (Int.toNat (eR:Int)) b1)) fun nG=>
 bk (decide ((0:Int)<(nG:Int))) (
 idx (List.drop (Int.toNat 1) (List.take (Int.toNat (eR:Int)) b1)) 0 fun y1=>
 gI .u8 y1 fun x1=>
 some [.b (decide (x1=0))]) (
 some [.b false])) (
 some [.b false]))) fun vs=>
 gC vs fun m u5=>
 gB m fun x2=>
 gN u5<|
 bk x2 (
 some (.dr [.i .u64 0,.list ([]:List MV),.i .i64 3])) (
 bQ (List.drop (Int.toNat 1) (List.take (Int.toNat (eR:Int)) b1)) fun v8=>
 bk (decide ((v8:Int)<(IntKind.wrap .i64 x))) (
 some (.dr [.i .u64 0,.list ([]:List MV),.i .i64 2])) (
 bQ (List.drop (Int.toNat 1) (List.take (Int.toNat (eR:Int)) b1)) fun Bk=>
 cb (decide ((0:Int)≤0∧(0:Int)≤(IntKind.wrap .i64 x)∧(IntKind.wrap .i64 x)≤(Bk:Int)))<|
 bQ (List.drop (Int.toNat 0) (List.take (Int.toNat (IntKind.wrap .i64 x)) (List.drop (Int.toNat 1) (List.take (Int.toNat (eR:Int)) b1)))) fun yU=>
 bd (Loop (fun sn=>
 Wn .u64 .i64 sn fun n x3=>
 bk (decide (x3<(yU:Int))) (
 idx (List.drop (Int.toNat 0) (List.take (Int.toNat (IntKind.wrap .i64 x)) (List.drop (Int.toNat 1) (List.take (Int.toNat (eR:Int)) b1)))) x3 fun y2=>
 gI .u8 y2 fun x4=>
 cb (decide ((0:Int)≤8))<|
 some (.inl [.i .u64 (bOr .u64 (IntKind.wrap .u64 (n *2^min (Int.toNat 8) (IntKind.bits .u64))) (IntKind.wrap .u64 x4)),.i .i64 (IntKind.wrap .i64 (x3+1))])) (
 some (.inr (3,[.i .u64 n])))) [.i .u64 0,.i .i64 0]) fun p=>
 cb (Nat.beq p.1 3)<|
 gC p.2 fun m3 yS=>
 gI .u64 m3 fun n1=>
 gN yS<|
 cb (mF 1 (List.drop (Int.toNat 1) (List.take (Int.toNat (eR:Int)) b1)))<|
 bQ (List.drop (Int.toNat 1) (List.take (Int.toNat (eR:Int)) b1)) fun Kk=>
 cb (decide ((0:Int)≤(IntKind.wrap .i64 x)∧(IntKind.wrap .i64 x)≤(Kk:Int)∧(Kk:Int)≤(Kk:Int)))<|
 some (.dr [.i .u64 n1,.list (List.drop (Int.toNat (IntKind.wrap .i64 x)) (List.take (Int.toNat (Kk:Int)) (List.drop (Int.toNat 1) (List.take (Int.toNat (eR:Int)) b1)))),.i .i64 0]))))
noncomputable def Ez:GT:=bD 185 (oV qQ) Ko
theorem EA:SG Ez:=zj Iv [] [] 60 [] [] [] [(3,[0,1,2,3,4,5,6,7]),(14,[0,1,2,3,4,5,6])] [(4,⟨[5,6],[],[],[(0,[(19,.sc (.k .b))])],[]⟩)] [] [(10,⟨[5,6,44,45],[],[(7,.sc (.k (.i .u64))),(46,.sc (.k (.i .i64)))],[(3,[(7,.sc (.k (.i .u64)))])],[]⟩)] [] Tryz.func185 (by kernel_rfl) (dY (fun _=>by kernel_rfl))
noncomputable def ou (b:MV):Option MV:=
 gL b fun b1=>
 bd (qQ (.list b1)) fun rA=>
 gT rA fun vs=>
 gC vs fun m u5=>
 gI .u64 m fun x=>
 Bj u5 fun x1 x2=>
 cb (decide ((0:Int)≤1))<|
 some (.dr [.i .i64 (K5 .i64 (IntKind.wrap .i64 (Int.fdiv x (2^min (Int.toNat 1) (IntKind.bits .u64)))) (IntKind.wrap .i64 (0-(IntKind.wrap .i64 (TJ .u64 x 1))))),.list x1,.i .i64 x2])
noncomputable def yb:GT:=bD 168 (oV ou) Ez
theorem Ad:SG yb:=pE EA [] 24 [] [] [] Tryz.func168 (by kernel_rfl) (dY (fun _=>by kernel_rfl))
noncomputable def cQ (t:List MV):Option MV:=
 Bj t fun b eA=>
 bd (
 bk (decide (eA=0)) (
 bd (ou (.list b)) fun rA=>
 gT rA fun vs=>
 gC vs fun m2 na=>
 gI .i64 m2 fun x=>
 Bj na fun x1 x2=>
 some (0,[.i .i64 x,.list x1,.i .i64 x2])) (
 some (0,[.i .i64 0,.list b,.i .i64 eA]))) fun p=>
 cb (Nat.beq p.1 0)<|
 gC p.2 fun m5 yT=>
 gI .i64 m5 fun n=>
 Bj yT fun x3 x4=>
 some (.eF (.i .i64 n) [.list x3,.i .i64 x4])
noncomputable def qR:GT:=bD 126 (cl1 cQ) yb
theorem uj:SG qR:=UO Ad 0 G7 [] [(0,1000000)] 24 [] [] [] [] [] [(2,⟨[0],[],[],[(0,[(2,.sc (.k (.i .i64))),(1000000,.box [.k .l,.k (.i .i64)])])],[]⟩)] [] [] Tryz.func126 (by kernel_rfl) (by kernel_rfl) (Md fun _=>by kernel_rfl)
noncomputable def nd (b most:MV):Option MV:=
 gL b fun b1=>
 gI .i64 most fun ab9=>
 bd (qQ (.list b1)) fun rA=>
 gT rA fun vs=>
 gC vs fun m u5=>
 gI .u64 m fun x=>
 Bj u5 fun x1 x2=>
 bk (!decide (x2=0)) (
 some (.dr [.s ([]:List UInt8),.list ([]:List MV),.i .i64 x2])) (
 bk (decide ((IntKind.wrap .u64 (imax ab9 0))<x)) (
 some (.dr [.s ([]:List UInt8),.list ([]:List MV),.i .i64 5])) (
 bQ x1 fun len=>
 bk (decide ((IntKind.wrap .u64 (len:Int))<x)) (
 some (.dr [.s ([]:List UInt8),.list ([]:List MV),.i .i64 2])) (
 bQ x1 fun eR=>
 cb (decide ((0:Int)≤0∧(0:Int)≤x∧x≤(eR:Int)))<|
 Hw (List.drop (Int.toNat 0) (List.take (Int.toNat x) x1)) fun bs=>
 cb (mF 1 x1)<|
 bQ x1 fun nG=>
 cb (decide ((0:Int)≤x∧x≤(nG:Int)∧(nG:Int)≤(nG:Int)))<|
 some (.dr [.s bs,.list (List.drop (Int.toNat x) (List.take (Int.toNat (nG:Int)) x1)),.i .i64 0]))))
noncomputable def wk:GT:=bD 169 (hM nd) qR
theorem yV:SG wk:=zj uj [] [] 39 [] [] [] [(8,[0,1,2,3,4,5,6,7,8,9])] [] [] [] [] Tryz.func169 (by kernel_rfl) (bU (fun _ _=>by kernel_rfl))
noncomputable def fC (t:List MV):Option MV:=
 Bj t fun b eA=>
 bd (
 bk (decide (eA=0)) (
 bd (nd (.list b) (.i .i64 6000)) fun rA=>
 gT rA fun vs=>
 gC vs fun m2 na=>
 gS m2 fun x=>
 Bj na fun x1 x2=>
 some (0,[.s x,.list x1,.i .i64 x2])) (
 some (0,[.s ([]:List UInt8),.list b,.i .i64 eA]))) fun p=>
 cb (Nat.beq p.1 0)<|
 gC p.2 fun m5 yT=>
 gS m5 fun sA=>
 Bj yT fun x3 x4=>
 some (.eF (.s sA) [.list x3,.i .i64 x4])
noncomputable def pF:GT:=bD 127 (cl1 fC) wk
theorem s7:SG pF:=UO yV 0 G7 [] [(0,1000000)] 24 [] [] [] [] [] [(2,⟨[0],[],[],[(0,[(2,.sc (.k .s)),(1000000,.box [.k .l,.k (.i .i64)])])],[]⟩)] [] [] Tryz.func127 (by kernel_rfl) (by kernel_rfl) (Md fun _=>by kernel_rfl)
noncomputable def gO (t:List MV):Option MV:=
 Bj t fun b eA=>
 bd (cQ [.list b,.i .i64 eA]) fun rA=>
 gW rA fun x ls=>
 Bj ls fun b1 eA1=>
 gI .i64 x fun x1=>
 bd (
 bk (decide (x1<0)) (
 some [.b true]) (
 some [.b (decide ((100:Int)<x1))])) fun vs=>
 gC vs fun m4 yS=>
 gB m4 fun x2=>
 gN yS<|
 bd (
 bk x2 (
 some (0,[.list b1,.i .i64 3])) (
 some (0,[.list b1,.i .i64 eA1]))) fun p=>
 cb (Nat.beq p.1 0)<|
 oLI .i64 p.2 fun x3 x4=>
 bd (
 bk (!decide (x4=0)) (
 some [.b true]) (
 some [.b (decide (x1=0))])) fun jC=>
 gC jC fun m7 wa=>
 gB m7 fun x5=>
 gN wa<|
 bk x5 (
 some (.eF (.list ([]:List MV)) [.list x3,.i .i64 x4])) (
 cb (decide ((0:Int)≤x1∧x1=x1∧x1 *32≤2^46))<|
 bQ (List.replicate (Int.toNat x1) (.agg [.i .i64 0,.i .i64 0,.s ([]:List UInt8)])) fun len=>
 bd (Loop (fun ug=>
 gC ug fun m8 pv=>
 gL m8 fun p2=>
 gC pv fun m9 qO=>
 gI .i64 m9 fun x6=>
 Bj qO fun x7 x8=>
 bk (decide (x6<(len:Int))) (
 bd (cQ [.list x7,.i .i64 x8]) fun aY=>
 gW aY fun x9 ls1=>
 Bj ls1 fun b2 eA2=>
 gI .i64 x9 fun pu=>
 idx p2 x6 fun y=>
 gA y fun cs=>
 kb cs fun By View Value=>
 some (.inl [.list (p2.set (Int.toNat x6) (.agg [.i .i64 pu,.i .i64 View,.s Value])),.i .i64 (IntKind.wrap .i64 (x6+1)),.list b2,.i .i64 eA2])) (
 some (.inr (2,[.list p2,.list x7,.i .i64 x8])))) [.list (List.replicate (Int.toNat x1) (.agg [.i .i64 0,.i .i64 0,.s ([]:List UInt8)])),.i .i64 0,.list x3,.i .i64 x4]) fun p1=>
 cb (Nat.beq p1.1 2)<|
 gC p1.2 fun Bi kH=>
 gL Bi fun p3=>
 Bj kH fun pZ qN=>
 bd (cQ [.list pZ,.i .i64 qN]) fun b7=>
 gW b7 fun qp ls2=>
 Bj ls2 fun b3 eA3=>
 gI .i64 qp fun rO=>
 bd (fC [.list b3,.i .i64 eA3]) fun cu=>
 gW cu fun uZ ls3=>
 Bj ls3 fun b4 eA4=>
 gS uZ fun xZ=>
 bQ p3 fun eR=>
 bd (Loop (fun SR=>
 Bj SR fun p5 uQ=>
 bk (decide (uQ<(eR:Int))) (
 idx p5 uQ fun y1=>
 gA y1 fun fg=>
 kb fg fun Iw eh bJ=>
 idx (p5.set (Int.toNat uQ) (.agg [.i .i64 Iw,.i .i64 rO,.s bJ])) uQ fun y2=>
 gA y2 fun nF=>
 kb nF fun By2 Cd ic=>
 some (.inl [.list ((p5.set (Int.toNat uQ) (.agg [.i .i64 Iw,.i .i64 rO,.s bJ])).set (Int.toNat uQ) (.agg [.i .i64 By2,.i .i64 Cd,.s xZ])),.i .i64 (IntKind.wrap .i64 (uQ+1))])) (
 some (.inr (4,[.list p5])))) [.list p3,.i .i64 0]) fun p4=>
 cb (Nat.beq p4.1 4)<|
 gC p4.2 fun m32 SS=>
 gL m32 fun p6=>
 gN SS<|
 some (.eF (.list p6) [.list b4,.i .i64 eA4]))
noncomputable def o9:GT:=bD 128 (cl1 gO) pF
theorem sq:SG o9:=UO s7 0 G7 [] [(0,1000000)] 64 [] [] [] [] [(4,⟨[0,3,1000000],[],[],[(0,[(28,.sc (.k .b))])],[]⟩),(2,⟨[0,3,1000000],[],[],[(0,[(16,.sc (.k .b))])],[]⟩)] [(3,⟨[0,3],[],[],[(0,[(1000000,.box [.k .l,.k (.i .i64)])])],[]⟩)] [(14,⟨[6,7,48,1000000],[],[(4,.sc (.own 30 58 false)),(49,.sc (.k (.i .i64)))],[(4,[(4,.sc (.own 30 58 false))])],[]⟩),(8,⟨[0,32],[],[(4,.sc (.own 30 58 false)),(33,.sc (.k (.i .i64))),(1000000,.box [.k .l,.k (.i .i64)])],[(2,[(4,.sc (.own 30 58 false)),(1000000,.box [.k .l,.k (.i .i64)])])],[]⟩)] [] Tryz.func128 (by kernel_rfl) (by kernel_rfl) (Md fun _=>by kernel_rfl)
noncomputable def lK (Zu:MV):Option MV:=
 gB Zu fun agG=>
 bk agG (
 some (.i .i64 1)) (
 some (.i .i64 0))
noncomputable def yc:GT:=bD 129 (oV lK) o9
theorem Ae:SG yc:=pE sq [] 4 [] [] [] Tryz.func129 (by kernel_rfl) (dY (fun _=>by kernel_rfl))
noncomputable def mg (sA:MV):Option MV:=
 gA sA fun cs=>
 zi cs fun F T=>
 bd (gM (.agg [.i .i64 F,.i .i64 T]) (.raw (.complex .f64 4611686018427387904 4607182418800017408))) fun rA=>
 gI .i64 rA fun x=>
 some (.i .i64 x)
noncomputable def EB:GT:=bD 103 (oV mg) yc
theorem EC:SG EB:=pE Ae [] 5 [] [] [] Tryz.func103 (by kernel_rfl) (dY (fun _=>by kernel_rfl))
noncomputable def kZ (a:MV):Option MV:=
 gA a fun cs=>
 kb cs fun By View Value=>
 bd (
 bk (decide ((0:Int)≤By)) (
 bk (decide ((0:Int)≤View)) (
 bk (decide (View≤100000)) (
 some [.b (decide ((Value.length:Int)≤6000))]) (
 some [.b false])) (
 some [.b false])) (
 some [.b false])) fun vs=>
 gC vs fun m3 yR=>
 gB m3 fun x=>
 gN yR<|
 some (.b x)
noncomputable def Ha:GT:=bD 100 (oV kZ) EB
theorem FV:SG Ha:=pE EC [] 22 [(1,⟨[1],[],[],[(0,[(2,.sc (.k .b))])],[]⟩)] [] [] Tryz.func100 (by kernel_rfl) (dY (fun _=>by kernel_rfl))
noncomputable def rP (t:MV):Option MV:=
 gA t fun cs=>
 gC cs fun m u5=>
 gL m fun L=>
 gN u5<|
 bQ L fun len=>
 bd (Loop (fun sn=>
 gC sn fun m1 na=>
 gI .i64 m1 fun x=>
 gN na<|
 bk (decide (x<(len:Int))) (
 idx L x fun y=>
 gA y fun fg=>
 kb fg fun By View Value=>
 bd (
 bd (kZ (.agg [.i .i64 By,.i .i64 View,.s Value])) fun rA=>
 gB rA fun x1=>
 bk (!x1) (
 some [.b true]) (
 bk (decide ((0:Int)<x)) (
 idx L (IntKind.wrap .i64 (x-1)) fun y1=>
 gA y1 fun nF=>
 kb nF fun Iw eh bJ=>
 some [.b (decide (By≤Iw))]) (
 some [.b false]))) fun vs=>
 gC vs fun m8 pv=>
 gB m8 fun x2=>
 gN pv<|
 bk x2 (
 some (.inr (1,[.b false]))) (
 some (.inl [.i .i64 (IntKind.wrap .i64 (x+1))]))) (
 some (.inr (2,[])))) [.i .i64 0]) fun p=>
 bk (Nat.beq p.1 2) (
 gN p.2<|
 some (.b true)) (
 cb (Nat.beq p.1 1)<|
 gC p.2 fun m9 qO=>
 gB m9 fun x3=>
 gN qO<|
 some (.b x3))
noncomputable def Ce:GT:=bD 160 (oV rP) Ha
theorem CD:SG Ce:=zj FV [] [] 33 [] [] [] [(4,[0,1,2,3,4,5,6,7,8,9,10,11,12,13,14,15,16,17,18])] [(4,⟨[1,3,4,6,7,8],[],[],[(0,[(31,.sc (.k .b))])],[]⟩)] [] [(2,⟨[1,6,7],[],[(8,.sc (.k (.i .i64)))],[(1,[(2,.sc (.k .b))]),(2,[])],[]⟩)] [] Tryz.func160 (by kernel_rfl) (dY (fun _=>by kernel_rfl))
noncomputable def ng (t view value:MV):Option MV:=
 gA t fun cs=>
 gC cs fun m u5=>
 gL m fun L=>
 gN u5<|
 gI .i64 view fun jz=>
 gS value fun n4=>
 bQ L fun len=>
 bd (Loop (fun sn=>
 Bj sn fun out x=>
 bk (decide (x<(len:Int))) (
 idx L x fun y=>
 gA y fun fg=>
 kb fg fun By View Value=>
 bd (
 bk (decide (View=jz)) (
 some [.b (decide (Value=n4))]) (
 some [.b false])) fun vs=>
 gC vs fun m6 wa=>
 gB m6 fun x1=>
 gN wa<|
 bd (
 bk x1 (
 bQ out fun eR=>
 bQ ([.agg [.i .i64 By,.i .i64 View,.s Value]]:List MV) fun nG=>
 cb (decide ((eR+nG) *32≤2^46))<|
 some (0,[.list (out++([.agg [.i .i64 By,.i .i64 View,.s Value]]:List MV))])) (
 some (0,[.list out]))) fun p1=>
 cb (Nat.beq p1.1 0)<|
 gC p1.2 fun m7 ug=>
 gL m7 fun Ye=>
 gN ug<|
 some (.inl [.list Ye,.i .i64 (IntKind.wrap .i64 (x+1))])) (
 some (.inr (2,[.list out])))) [.list ([]:List MV),.i .i64 0]) fun p=>
 cb (Nat.beq p.1 2)<|
 gC p.2 fun m8 pv=>
 gL m8 fun agH=>
 gN pv<|
 some (.list agH)
noncomputable def Af:GT:=bD 159 (yG ng) Ce
theorem Bn:SG Af:=zj CD [] [] 33 [29] [] [] [] [(5,⟨[1,2,7,9,11,12,13],[30],[],[(0,[(26,.sc (.k .b))])],[30]⟩)] [(6,⟨[1,2,9,11,12,13],[],[],[(0,[(7,.sc (.own 30 58 true))])],[30]⟩)] [(3,⟨[1,2,11,12],[],[(7,.sc (.own 30 58 true)),(13,.sc (.k (.i .i64)))],[(2,[(7,.sc (.own 30 58 true))])],[30]⟩)] [] Tryz.func159 (by kernel_rfl) (kU (fun _ _ _=>by kernel_rfl))
noncomputable def rQ (t view value:MV):Option MV:=
 gA t fun cs=>
 gC cs fun m u5=>
 gL m fun L=>
 gN u5<|
 gI .i64 view fun jz=>
 gS value fun n4=>
 bd (ng (.agg [.list L]) (.i .i64 jz) (.s n4)) fun rA=>
 gL rA fun x=>
 bQ x fun len=>
 some (.i .i64 (len:Int))
noncomputable def Cf:GT:=bD 161 (yG rQ) Af
theorem CE:SG Cf:=pE Bn [] 12 [] [] [] Tryz.func161 (by kernel_rfl) (kU (fun _ _ _=>by kernel_rfl))
noncomputable def mz (sA p:MV):Option MV:=
 gA sA fun cs=>
 zi cs fun F T=>
 gL p fun p1=>
 bd (
 bd (jn (.agg [.i .i64 F,.i .i64 T])) fun rA=>
 gB rA fun x=>
 bk (!x) (
 some [.b true]) (
 bQ p1 fun len=>
 bd (mg (.agg [.i .i64 F,.i .i64 T])) fun aY=>
 gI .i64 aY fun x1=>
 bk (!decide ((len:Int)=x1)) (
 some [.b true]) (
 bd (rP (.agg [.list p1])) fun b7=>
 gB b7 fun x2=>
 some [.b (!x2)]))) fun vs=>
 gC vs fun m2 na=>
 gB m2 fun x3=>
 gN na<|
 bk x3 (
 some (.b false)) (
 bd (
 bQ p1 fun eR=>
 idx p1 (IntKind.wrap .i64 ((eR:Int)-1)) fun y=>
 gA y fun fg=>
 kb fg fun By View Value=>
 bd (nZ (.agg [.i .i64 F,.i .i64 T])) fun cu=>
 gI .i64 cu fun x4=>
 bk (decide (By<x4)) (
 idx p1 0 fun y1=>
 gA y1 fun nF=>
 kb nF fun Iw eh bJ=>
 idx p1 0 fun y2=>
 gA y2 fun tw=>
 kb tw fun By2 Cd ic=>
 bQ p1 fun nG=>
 bd (rQ (.agg [.list p1]) (.i .i64 eh) (.s ic)) fun fB=>
 gI .i64 fB fun x5=>
 some [.b (decide (x5=(nG:Int)))]) (
 some [.b false])) fun jC=>
 gC jC fun Bh kG=>
 gB Bh fun x6=>
 gN kG<|
 some (.b x6))
noncomputable def Cg:GT:=bD 102 (hM mz) Cf
theorem CF:SG Cg:=zj CE [] [] 47 [] [] [] [(3,[0,1,2,3,4,5,6,7,8,9,10,11,12,13,14,15,16,17,18,19,20,22,23,21,24,25,26])] [(3,⟨[1,2],[],[],[(0,[(4,.sc (.k .b))])],[]⟩),(1,⟨[1,2],[],[],[(0,[(20,.sc (.k .b))])],[]⟩)] [] [] [] Tryz.func102 (by kernel_rfl) (bU (fun _ _=>by kernel_rfl))
noncomputable def fG (a:MV):Option MV:=
 gA a fun cs=>
 fA cs fun SF ST Me View Has At Value Proof fS=>
 bd (
 bk (decide (View<0)) (
 some [.b true]) (
 some [.b (decide ((100000:Int)<View))])) fun vs=>
 gC vs fun m9 pv=>
 gB m9 fun x=>
 gN pv<|
 bk x (
 some (.b false)) (
 bd (
 bk Has (
 bk (decide (At<0)) (
 some [.b true]) (
 bk (decide (View<At)) (
 some [.b true]) (
 some [.b (decide ((6000:Int)<(Value.length:Int)))]))) (
 some [.b false])) fun jC=>
 gC jC fun Kf qO=>
 gB Kf fun x1=>
 gN qO<|
 bk x1 (
 some (.b false)) (
 bd (
 bk (!Has) (
 bk (!decide (At=0)) (
 some [.b true]) (
 some [.b (!decide (Value=([]:List UInt8)))])) (
 some [.b false])) fun qE=>
 gC qE fun Kg s4=>
 gB Kg fun x2=>
 gN s4<|
 bk x2 (
 some (.b false)) (
 bd (
 bQ Proof fun len=>
 bk (decide ((len:Int)=0)) (
 some [.b true]) (
 bd (mz (.agg [.i .i64 SF,.i .i64 ST]) (.list Proof)) fun rA=>
 gB rA fun x3=>
 bk x3 (
 idx Proof 0 fun y=>
 gA y fun fg=>
 kb fg fun By eh bJ=>
 some [.b (decide (eh≤View))]) (
 some [.b false]))) fun SU=>
 gC SU fun Pe s6=>
 gB Pe fun x4=>
 gN s6<|
 some (.b x4))))
noncomputable def nh:GT:=bD 130 (oV fG) Cg
theorem qS:SG nh:=zj CF [] [] 68 [] [] [] [(7,[0,1,2,3,4,5,6,7,8,9,10,11,12,13,14,15,16,17,18,19,20,21])] [(7,⟨[1],[],[],[(0,[(2,.sc (.k .b))])],[]⟩),(5,⟨[1],[],[],[(0,[(33,.sc (.k .b))])],[]⟩),(3,⟨[1],[],[],[(0,[(12,.sc (.k .b))])],[]⟩),(1,⟨[1],[],[],[(0,[(3,.sc (.k .b))])],[]⟩)] [] [] [] Tryz.func130 (by kernel_rfl) (dY (fun _=>by kernel_rfl))
noncomputable def ov (a a1 a2:MV):Option MV:=
 gA a fun cs=>
 zi cs fun F T=>
 gI .i64 a1 fun jm=>
 gL a2 fun Mi=>
 bd (nb (.agg [.i .i64 F,.i .i64 T]) (.i .i64 jm)) fun rA=>
 gT rA fun vs=>
 gC vs fun m2 na=>
 gA m2 fun fg=>
 fA fg fun SF ST Me View Has At Value Proof fS=>
 gC na fun Bh kG=>
 gI .i64 Bh fun x=>
 gN kG<|
 bk (!decide (x=0)) (
 some (.dr [.agg (cq 0 0 0 0 false 0 ([]:List UInt8) ([]:List MV) ([]:List MV)),.i .i64 x])) (
 bd (cQ [.list Mi,.i .i64 0]) fun aY=>
 gW aY fun x1 ls=>
 Bj ls fun b eA=>
 gI .i64 x1 fun x2=>
 bd (cQ [.list b,.i .i64 eA]) fun b7=>
 gW b7 fun x3 ls1=>
 Bj ls1 fun b1 eA1=>
 gI .i64 x3 fun x4=>
 bd (cQ [.list b1,.i .i64 eA1]) fun cu=>
 gW cu fun x5 ls2=>
 Bj ls2 fun b2 eA2=>
 gI .i64 x5 fun x6=>
 bd (fC [.list b2,.i .i64 eA2]) fun fB=>
 gW fB fun x7 ls3=>
 Bj ls3 fun b3 eA3=>
 gS x7 fun x8=>
 bd (gO [.list b3,.i .i64 eA3]) fun kC=>
 gW kC fun x9 ls4=>
 Bj ls4 fun b4 eA4=>
 gL x9 fun pu=>
 bd (
 bk (!decide (eA4=0)) (
 some [.b true]) (
 bd (lK (.b (decide (x4=1)))) fun pD=>
 gI .i64 pD fun pZ=>
 bk (!decide (x4=pZ)) (
 some [.b true]) (
 bQ b4 fun len=>
 bk (decide ((0:Int)<(len:Int))) (
 some [.b true]) (
 bd (fG (.agg (cq SF ST Me x2 (decide (x4=1)) x6 x8 pu fS))) fun vP=>
 gB vP fun qN=>
 some [.b (!qN)])))) fun jC=>
 gC jC fun m23 Kp=>
 gB m23 fun qp=>
 gN Kp<|
 bk qp (
 some (.dr [.agg (cq 0 0 0 0 false 0 ([]:List UInt8) ([]:List MV) ([]:List MV)),.i .i64 3])) (
 some (.dr [.agg (cq SF ST Me x2 (decide (x4=1)) x6 x8 pu fS),.i .i64 0])))
noncomputable def yd:GT:=bD 63 (yG ov) nh
theorem Ag:SG yd:=fnX qS [] [] 68 [] [] [] [] [(8,⟨[6,8,9,10,11,14],[],[],[(0,[(64,.sc (.k .b))])],[]⟩)] [] [] [] Tryz.func63 (by kernel_rfl) (kU (fun _ _ _=>by kernel_rfl))
noncomputable def qT (p:MV):Option MV:=
 gL p fun p1=>
 bQ p1 fun len=>
 bk (decide ((len:Int)=0)) (
 some (.dr [.i .i64 (-1),.s ([]:List UInt8),.b false])) (
 idx p1 0 fun y=>
 gA y fun cs=>
 kb cs fun By View Value=>
 idx p1 0 fun y1=>
 gA y1 fun fg=>
 kb fg fun Iw eh bJ=>
 some (.dr [.i .i64 View,.s bJ,.b true]))
noncomputable def Kq:GT:=bD 99 (oV qT) yd
theorem Ix:SG Kq:=zj Ag [] [] 16 [] [] [] [(3,[0,1,2,3,4,5,6,7,8,9,10])] [] [] [] [] Tryz.func99 (by kernel_rfl) (dY (fun _=>by kernel_rfl))
noncomputable def uk (x:MV):Option MV:=
 gI .u64 x fun x1=>
 bd (
 bk (decide ((4294967296:Int)≤x1)) (
 cb (decide ((0:Int)≤32))<|
 some (0,[.i .u64 (Int.fdiv x1 (2^min (Int.toNat 32) (IntKind.bits .u64))),.i .i64 32])) (
 some (0,[.i .u64 x1,.i .i64 0]))) fun p=>
 cb (Nat.beq p.1 0)<|
 Wn .u64 .i64 p.2 fun x2 n=>
 bd (
 bk (decide ((65536:Int)≤x2)) (
 cb (decide ((0:Int)≤16))<|
 some (0,[.i .u64 (Int.fdiv x2 (2^min (Int.toNat 16) (IntKind.bits .u64))),.i .i64 (IntKind.wrap .i64 (n+16))])) (
 some (0,[.i .u64 x2,.i .i64 n]))) fun p1=>
 cb (Nat.beq p1.1 0)<|
 Wn .u64 .i64 p1.2 fun x3 n1=>
 bd (
 bk (decide ((256:Int)≤x3)) (
 cb (decide ((0:Int)≤8))<|
 some (0,[.i .u64 (Int.fdiv x3 (2^min (Int.toNat 8) (IntKind.bits .u64))),.i .i64 (IntKind.wrap .i64 (n1+8))])) (
 some (0,[.i .u64 x3,.i .i64 n1]))) fun p2=>
 cb (Nat.beq p2.1 0)<|
 Wn .u64 .i64 p2.2 fun x4 n2=>
 cb (decide ((0:Int)≤(IntKind.wrap .u8 x4)∧(IntKind.wrap .u8 x4)<(((([0,1,2,2,3,3,3,3,4,4,4,4,4,4,4,4,5,5,5,5,5,5,5,5,5,5,5,5,5,5,5,5,6,6,6,6,6,6,6,6,6,6,6,6,6,6,6,6,6,6,6,6,6,6,6,6,6,6,6,6,6,6,6,6]:List UInt8)++([7,7,7,7,7,7,7,7,7,7,7,7,7,7,7,7,7,7,7,7,7,7,7,7,7,7,7,7,7,7,7,7,7,7,7,7,7,7,7,7,7,7,7,7,7,7,7,7,7,7,7,7,7,7,7,7,7,7,7,7,7,7,7,7]:List UInt8))++(([8,8,8,8,8,8,8,8,8,8,8,8,8,8,8,8,8,8,8,8,8,8,8,8,8,8,8,8,8,8,8,8,8,8,8,8,8,8,8,8,8,8,8,8,8,8,8,8,8,8,8,8,8,8,8,8,8,8,8,8,8,8,8,8]:List UInt8)++([8,8,8,8,8,8,8,8,8,8,8,8,8,8,8,8,8,8,8,8,8,8,8,8,8,8,8,8,8,8,8,8,8,8,8,8,8,8,8,8,8,8,8,8,8,8,8,8,8,8,8,8,8,8,8,8,8,8,8,8,8,8,8,8]:List UInt8))).length:Int)))<|
 some (.i .i64 (IntKind.wrap .i64 (n2+(IntKind.wrap .i64 ((((([0,1,2,2,3,3,3,3,4,4,4,4,4,4,4,4,5,5,5,5,5,5,5,5,5,5,5,5,5,5,5,5,6,6,6,6,6,6,6,6,6,6,6,6,6,6,6,6,6,6,6,6,6,6,6,6,6,6,6,6,6,6,6,6]:List UInt8)++([7,7,7,7,7,7,7,7,7,7,7,7,7,7,7,7,7,7,7,7,7,7,7,7,7,7,7,7,7,7,7,7,7,7,7,7,7,7,7,7,7,7,7,7,7,7,7,7,7,7,7,7,7,7,7,7,7,7,7,7,7,7,7,7]:List UInt8))++(([8,8,8,8,8,8,8,8,8,8,8,8,8,8,8,8,8,8,8,8,8,8,8,8,8,8,8,8,8,8,8,8,8,8,8,8,8,8,8,8,8,8,8,8,8,8,8,8,8,8,8,8,8,8,8,8,8,8,8,8,8,8,8,8]:List UInt8)++([8,8,8,8,8,8,8,8,8,8,8,8,8,8,8,8,8,8,8,8,8,8,8,8,8,8,8,8,8,8,8,8,8,8,8,8,8,8,8,8,8,8,8,8,8,8,8,8,8,8,8,8,8,8,8,8,8,8,8,8,8,8,8,8]:List UInt8))).getD (Int.toNat (IntKind.wrap .u8 x4)) 0).toNat:Int)))))
noncomputable def ED:GT:=bD 191 (oV uk) Kq
theorem EE:SG ED:=pE Ix [] 25 [] [(8,⟨[],[],[],[(0,[(0,.sc (.k (.i .u64))),(2,.sc (.k (.i .i64)))])],[]⟩),(5,⟨[],[],[],[(0,[(0,.sc (.k (.i .u64))),(2,.sc (.k (.i .i64)))])],[]⟩),(2,⟨[],[],[],[(0,[(0,.sc (.k (.i .u64))),(2,.sc (.k (.i .i64)))])],[]⟩)] [] Tryz.func191 (by kernel_rfl) (dY (fun _=>by kernel_rfl))
noncomputable def ul (n:MV):Option MV:=
 gI .u64 n fun n1=>
 bd (uk (.i .u64 n1)) fun rA=>
 gI .i64 rA fun x=>
 cb (!decide ((8:Int)=0))<|
 some (.i .i64 (IntKind.wrap .i64 (1+(IntKind.wrap .i64 (Int.tdiv (IntKind.wrap .i64 (x+7)) 8)))))
noncomputable def EF:GT:=bD 186 (oV ul) ED
theorem EG:SG EF:=pE EE [] 8 [] [] [] Tryz.func186 (by kernel_rfl) (dY (fun _=>by kernel_rfl))
noncomputable def lR (sA:MV):Option MV:=
 gL sA fun zk=>
 bQ zk fun len=>
 bQ zk fun eR=>
 cb (decide ((len:Int)=(zk.length:Int)∧(eR:Int)=(zk.length:Int)))<|
 some (.clip zk)
noncomputable def uR:GT:=bD 187 (oV lR) EF
theorem xz:SG uR:=pE EG [] 9 [] [] [] Tryz.func187 (by kernel_rfl) (dY (fun _=>by kernel_rfl))
noncomputable def s8 (b n:MV):Option MV:=
 gL b fun b1=>
 gI .u64 n fun n1=>
 bd (ul (.i .u64 n1)) fun rA=>
 gI .i64 rA fun x=>
 bd (lR (.list b1)) fun aY=>
 Tr aY fun xs=>
 cb (mF 1 xs)<|
 bQ xs fun len=>
 bQ ([.i .u8 (IntKind.wrap .u8 (IntKind.wrap .i64 (x-1)))]:List MV) fun eR=>
 cb (decide (0<eR∧(len+eR) *1≤2^46))<|
 bd (Loop (fun u5=>
 Bj u5 fun out i=>
 bk (decide ((0:Int)≤i)) (
 cb (decide ((0:Int)≤(IntKind.wrap .i64 (8 *i))))<|
 bQ out fun nG=>
 bQ ([.i .u8 (IntKind.wrap .u8 (Int.fdiv n1 (2^min (Int.toNat (IntKind.wrap .i64 (8 *i))) (IntKind.bits .u64))))]:List MV) fun v8=>
 cb (decide ((nG+v8) *1≤2^46))<|
 some (.inl [.list (out++([.i .u8 (IntKind.wrap .u8 (Int.fdiv n1 (2^min (Int.toNat (IntKind.wrap .i64 (8 *i))) (IntKind.bits .u64))))]:List MV)),.i .i64 (IntKind.wrap .i64 (i-1))])) (
 some (.inr (2,[.list out])))) [.list (xs++([.i .u8 (IntKind.wrap .u8 (IntKind.wrap .i64 (x-1)))]:List MV)),.i .i64 (IntKind.wrap .i64 ((IntKind.wrap .i64 (x-1))-1))]) fun p=>
 cb (Nat.beq p.1 2)<|
 gC p.2 fun m2 yR=>
 gL m2 fun Ye=>
 gN yR<|
 some (.fresh Ye)
noncomputable def Hb:GT:=bD 170 (hM s8) uR
theorem FW:SG Hb:=fnF xz 5 [] [] 32 [15,29] [] [] [] [] [] [(4,⟨[1],[],[(6,.sc (.own 16 5 false)),(7,.sc (.k (.i .i64)))],[(2,[(6,.sc (.own 16 5 false))])],[]⟩)] [] Tryz.func170 (by kernel_rfl) (by kernel_rfl) (bU (fun _ _=>by kernel_rfl))
noncomputable def lc (b n:MV):Option MV:=
 gL b fun b1=>
 gI .i64 n fun n1=>
 cb (decide ((0:Int)≤1))<|
 cb (decide ((0:Int)≤63))<|
 bd (s8 (.list b1) (.i .u64 (K5 .u64 (IntKind.wrap .u64 ((IntKind.wrap .u64 n1) *2^min (Int.toNat 1) (IntKind.bits .u64))) (IntKind.wrap .u64 (Int.fdiv n1 (2^min (Int.toNat 63) (IntKind.bits .i64))))))) fun rA=>
 gF rA fun xs=>
 some (.fresh xs)
noncomputable def Hc:GT:=bD 131 (hM lc) Hb
theorem FX:SG Hc:=fnF FW 5 [] [] 14 [] [] [] [] [] [] [] [] Tryz.func131 (by kernel_rfl) (by kernel_rfl) (bU (fun _ _=>by kernel_rfl))
noncomputable def qU (b sA:MV):Option MV:=
 gL b fun b1=>
 gS sA fun zk=>
 bd (s8 (.list b1) (.i .u64 (IntKind.wrap .u64 (zk.length:Int)))) fun rA=>
 gF rA fun xs=>
 bQ xs fun len=>
 bQ (I6 zk) fun eR=>
 cb (decide ((len+eR) *1≤2^46))<|
 some (.fresh (xs++(I6 zk)))
noncomputable def EH:GT:=bD 132 (hM qU) Hc
theorem EI:SG EH:=fnF FX 5 [] [] 12 [] [] [] [] [] [] [] [] Tryz.func132 (by kernel_rfl) (by kernel_rfl) (bU (fun _ _=>by kernel_rfl))
noncomputable def ox (a:MV):Option MV:=
 gA a fun cs=>
 fA cs fun SF ST Me View Has At Value Proof fS=>
 bd (lc (.list ([]:List MV)) (.i .i64 View)) fun rA=>
 gF rA fun xs=>
 bd (lK (.b Has)) fun aY=>
 gI .i64 aY fun x=>
 bd (lc (.list xs) (.i .i64 x)) fun b7=>
 gF b7 fun Ey=>
 bd (lc (.list Ey) (.i .i64 At)) fun cu=>
 gF cu fun Ac=>
 bQ Proof fun len=>
 bd (qU (.list Ac) (.s Value)) fun fB=>
 gF fB fun NQ=>
 bd (lc (.list NQ) (.i .i64 (len:Int))) fun kC=>
 gF kC fun SE=>
 bQ Proof fun eR=>
 bd (Loop (fun pv=>
 Bj pv fun b x1=>
 bk (decide (x1<(eR:Int))) (
 idx Proof x1 fun y=>
 gA y fun fg=>
 kb fg fun By eh bJ=>
 bd (lc (.list b) (.i .i64 By)) fun pD=>
 gF pD fun Vg=>
 some (.inl [.list Vg,.i .i64 (IntKind.wrap .i64 (x1+1))])) (
 some (.inr (2,[.list b])))) [.list SE,.i .i64 0]) fun p=>
 cb (Nat.beq p.1 2)<|
 gC p.2 fun Ip s6=>
 gL Ip fun b1=>
 gN s6<|
 bd (qT (.list Proof)) fun vP=>
 gT vP fun vs=>
 Iq vs fun x2 x3 x4=>
 bd (
 bk x4 (
 bd (lc (.list b1) (.i .i64 x2)) fun Mb=>
 gF Mb fun xs6=>
 bd (qU (.list xs6) (.s x3)) fun NK=>
 gF NK fun xs7=>
 some (0,[.list xs7])) (
 some (0,[.list b1]))) fun p1=>
 cb (Nat.beq p1.1 0)<|
 gC p1.2 fun FQ o7=>
 gL FQ fun b2=>
 gN o7<|
 some (.list b2)
noncomputable def ye:GT:=bD 64 (oV ox) EH
theorem Ah:SG ye:=zj EI [] [] 53 [] [] [] [(1,[0,1,3,4,7,8,2,5,6,9,10]),(2,[0,1,2,4,5,6,3,7,8])] [] [(10,⟨[6,7],[],[],[(0,[(3,.sc (.own 26 5 true))])],[11,15,18,22,26,37,49,51]⟩)] [(4,⟨[1,28,29],[],[(3,.sc (.own 26 5 true)),(30,.sc (.k (.i .i64)))],[(2,[(3,.sc (.own 26 5 true))])],[11,15,18,22,26,37,49,51]⟩)] [] Tryz.func64 (by kernel_rfl) (dY (fun _=>by kernel_rfl))
noncomputable def qa (sA i n:MV):Option MV:=
 gA sA fun cs=>
 zi cs fun F T=>
 gI .i64 i fun i1=>
 gA n fun fg=>
 aT fg fun wc we wg dB kI wh dj dk ck wi wj bE bw dm ew dp iX mE=>
 bd (ox (.agg (cq wc we wg dB kI wh dj dk ck))) fun rA=>
 gL rA fun x=>
 bd (ov (.agg [.i .i64 F,.i .i64 T]) (.i .i64 i1) (.list x)) fun aY=>
 gT aY fun vs=>
 gC vs fun Pm o8=>
 gA Pm fun nF=>
 fA nF fun SF ST Me View Has At Value Proof fS=>
 gC o8 fun Yf EJ=>
 gI .i64 Yf fun x1=>
 gN EJ<|
 bd (o6 (.agg [.i .i64 F,.i .i64 T])) fun b7=>
 gT b7 fun jC=>
 gC jC fun m31 Kr=>
 gA m31 fun tw=>
 fe tw fun u6 u7 eI eJ nK ch bJ=>
 gC Kr fun m39 Km=>
 gI .i64 m39 fun x2=>
 gN Km<|
 some (.agg (aq SF ST Me View Has At Value Proof fS u6 u7 eI eJ nK ch bJ ([]:List MV) View))
noncomputable def Ai:GT:=bD 22 (yG qa) ye
theorem Bo:SG Ai:=zj Ah [] [] 30 [] [] [] [(1,[0,1,2,3,4,5,6,7,8,9,10,11])] [] [] [] [] Tryz.func22 (by kernel_rfl) (kU (fun _ _ _=>by kernel_rfl))
noncomputable def ey (c i bad:MV):Option MV:=
 gA c fun cs=>
 cw cs fun SF ST cV Want N bF=>
 gI .i64 i fun i1=>
 gB bad fun agI=>
 bd (
 bk (decide ((0:Int)≤i1)) (
 bQ cV fun len=>
 bk (decide (i1<(len:Int))) (
 idx cV i1 fun y=>
 gB y fun x=>
 some [.b (decide (x=agI))]) (
 some [.b false])) (
 some [.b false])) fun vs=>
 gC vs fun m6 Ep=>
 gB m6 fun x1=>
 gN Ep<|
 some (.b x1)
noncomputable def Ch:GT:=bD 73 (yG ey) Ai
theorem CG:SG Ch:=pE Bo [] 25 [(1,⟨[1,2,3],[],[],[(0,[(6,.sc (.k .b))])],[]⟩)] [] [] Tryz.func73 (by kernel_rfl) (kU (fun _ _ _=>by kernel_rfl))
noncomputable def gd (s1 s2:MV):Option MV:=
 gL s1 fun Mj=>
 gL s2 fun SV=>
 bQ Mj fun len=>
 bQ SV fun eR=>
 bk (!decide ((len:Int)=(eR:Int))) (
 some (.b false)) (
 bQ Mj fun nG=>
 bd (Loop (fun u5=>
 gC u5 fun m sn=>
 gI .i64 m fun x=>
 gN sn<|
 bk (decide (x<(nG:Int))) (
 idx Mj x fun y=>
 gA y fun cs=>
 kb cs fun By View Value=>
 idx SV x fun y1=>
 gA y1 fun fg=>
 kb fg fun Iw eh bJ=>
 bk (!((decide (By=Iw))&&((decide (View=eh))&&(decide (Value=bJ))))) (
 some (.inr (1,[.b false]))) (
 some (.inl [.i .i64 (IntKind.wrap .i64 (x+1))]))) (
 some (.inr (2,[])))) [.i .i64 0]) fun p=>
 bk (Nat.beq p.1 2) (
 gN p.2<|
 some (.b true)) (
 cb (Nat.beq p.1 1)<|
 gC p.2 fun m7 ug=>
 gB m7 fun x1=>
 gN ug<|
 some (.b x1)))
noncomputable def nL:GT:=bD 180 (hM gd) Ch
theorem rb:SG nL:=zj CG [] [] 26 [] [] [] [(6,[0,1,2,3,4,5,6,7,8])] [] [] [(4,⟨[0,1,12],[],[(13,.sc (.k (.i .i64)))],[(1,[(4,.sc (.k .b))]),(2,[])],[]⟩)] [] Tryz.func180 (by kernel_rfl) (bU (fun _ _=>by kernel_rfl))
noncomputable def um (a b:MV):Option MV:=
 gL a fun a1=>
 gL b fun b1=>
 bd (gd (.list a1) (.list b1)) fun rA=>
 gB rA fun x=>
 some (.b x)
noncomputable def EK:GT:=bD 152 (hM um) nL
theorem EL:SG EK:=pE rb [] 8 [] [] [] Tryz.func152 (by kernel_rfl) (bU (fun _ _=>by kernel_rfl))
noncomputable def oz (x y:MV):Option MV:=
 gA x fun cs=>
 fm cs fun By mc Has View Value Proof=>
 gA y fun fg=>
 fm fg fun Iw Pn Aj eh bJ mh=>
 bd (
 bk (decide (By=Iw)) (
 bk (decide (mc=Pn)) (
 bk (decide (Has=Aj)) (
 bk (decide (View=eh)) (
 bk (decide (Value=bJ)) (
 bd (um (.list Proof) (.list mh)) fun rA=>
 gB rA fun x1=>
 some [.b x1]) (
 some [.b false])) (
 some [.b false])) (
 some [.b false])) (
 some [.b false])) (
 some [.b false])) fun vs=>
 gC vs fun Bh kG=>
 gB Bh fun x2=>
 gN kG<|
 some (.b x2)
noncomputable def sr:GT:=bD 176 (hM oz) EK
theorem Ak:SG sr:=pE EL [] 45 [(1,⟨[2,3],[],[],[(0,[(4,.sc (.k .b))])],[]⟩)] [] [] Tryz.func176 (by kernel_rfl) (bU (fun _ _=>by kernel_rfl))
noncomputable def cr:GT:=sr
theorem eY (x0 x1:MV):cr 176 [x0,x1]=oz x0 x1:=by kernel_rfl
noncomputable def bV (s1 s2 eq:MV):Option MV:=
 gL s1 fun Mj=>
 gL s2 fun SV=>
 gR eq fun eq1=>
 bQ Mj fun len=>
 bQ SV fun eR=>
 bk (!decide ((len:Int)=(eR:Int))) (
 some (.b false)) (
 bQ Mj fun nG=>
 bd (Loop (fun u5=>
 gC u5 fun m sn=>
 gI .i64 m fun x=>
 gN sn<|
 bk (decide (x<(nG:Int))) (
 idx Mj x fun y=>
 gA y fun cs=>
 fm cs fun By mc Has View Value Proof=>
 idx SV x fun y1=>
 gA y1 fun fg=>
 fm fg fun Iw Pn Aj eh bJ mh=>
 MQ eq1 fun fn cap=>
 cb (!gv fn)<|
 bd (cr fn ([.agg (eC By mc Has View Value Proof),.agg (eC Iw Pn Aj eh bJ mh)]++cap)) fun rA=>
 gB rA fun x1=>
 bk (!x1) (
 some (.inr (1,[.b false]))) (
 some (.inl [.i .i64 (IntKind.wrap .i64 (x+1))]))) (
 some (.inr (2,[])))) [.i .i64 0]) fun p=>
 bk (Nat.beq p.1 2) (
 gN p.2<|
 some (.b true)) (
 cb (Nat.beq p.1 1)<|
 gC p.2 fun Io s5=>
 gB Io fun x2=>
 gN s5<|
 some (.b x2)))
noncomputable def dW:GT:=bD 175 (yG bV) sr
theorem gl:SG dW:=pE Ak [] 32 [] [] [(4,⟨[1,2,15,16],[],[(17,.sc (.k (.i .i64)))],[(1,[(6,.sc (.k .b))]),(2,[])],[]⟩)] Tryz.func175 (by kernel_rfl) (kU (fun _ _ _=>by kernel_rfl))
noncomputable def rR (a b:MV):Option MV:=
 gL a fun a1=>
 gL b fun b1=>
 bd (bV (.list a1) (.list b1) (.func 176 [])) fun rA=>
 gB rA fun x=>
 some (.b x)
noncomputable def Ci:GT:=bD 144 (hM rR) dW
theorem CH:SG Ci:=pE gl [] 8 [] [] [] Tryz.func144 (by kernel_rfl) (bU (fun _ _=>by kernel_rfl))
noncomputable def iA (m c:MV):Option MV:=
 gA m fun cs=>
 cf cs fun Kind gh View Value fE fH dq cE Proof EM rc rf lm gm fT=>
 gP c fun fg=>
 fm fg fun By mc Has eh bJ mh=>
 bd (
 bk (decide (Kind=4)) (
 bd (rR (.list ([.agg (eC EM rc rf lm gm fT)]:List MV)) (.list ([.agg (eC By mc Has eh bJ mh)]:List MV))) fun rA=>
 gB rA fun x=>
 some [.b x]) (
 some [.b false])) fun vs=>
 gC vs fun m22 Ab=>
 gB m22 fun x1=>
 gN Ab<|
 some (.b x1)
noncomputable def pG:GT:=bD 143 (hM iA) Ci
theorem s9:SG pG:=zj CH [[.i .i64,.i .i64,.b,.i .i64,.s,.l]] [] 15 [10,12] [] [] [] [(1,⟨[1,2],[],[],[(0,[(3,.sc (.k .b))])],[]⟩)] [] [] [] Tryz.func143 (by kernel_rfl) (bU (fun _ _=>by kernel_rfl))
noncomputable def jZ (m c:MV):Option MV:=
 gA m fun cs=>
 cf cs fun Kind gh View Value fE fH dq cE Proof EM rc rf lm gm fT=>
 gP c fun fg=>
 kb fg fun By eh bJ=>
 bd (
 bk (decide (Kind=2)) (
 some [.b ((decide (fH=By))&&((decide (dq=eh))&&(decide (cE=bJ))))]) (
 some [.b false])) fun vs=>
 gC vs fun Pl kH=>
 gB Pl fun x=>
 gN kH<|
 some (.b x)
noncomputable def ni:GT:=bD 179 (hM jZ) pG
theorem u9:SG ni:=pE s9 [[.i .i64,.i .i64,.s]] 13 [(1,⟨[1,2],[],[],[(0,[(3,.sc (.k .b))])],[]⟩)] [] [] Tryz.func179 (by kernel_rfl) (bU (fun _ _=>by kernel_rfl))
noncomputable def dy:GT:=ni
theorem ei (x0 x1:MV):dy 143 [x0,x1]=iA x0 x1:=by kernel_rfl
theorem jQ (x0 x1:MV):dy 179 [x0,x1]=jZ x0 x1:=by kernel_rfl
noncomputable def fp (sA f:MV):Option MV:=
 gL sA fun zk=>
 gR f fun f1=>
 bQ zk fun len=>
 bd (Loop (fun u5=>
 gC u5 fun m sn=>
 gI .i64 m fun x=>
 gN sn<|
 bk (decide (x<(len:Int))) (
 idx zk x fun y=>
 gA y fun cs=>
 cf cs fun Kind gh View Value fE fH dq cE Proof EM rc rf lm gm fT=>
 MQ f1 fun fn cap=>
 cb (!gv fn)<|
 bd (dy fn ([.agg (aC Kind gh View Value fE fH dq cE Proof EM rc rf lm gm fT)]++cap)) fun rA=>
 gB rA fun x1=>
 bk x1 (
 some (.inr (1,[.i .i64 x]))) (
 some (.inl [.i .i64 (IntKind.wrap .i64 (x+1))]))) (
 some (.inr (2,[])))) [.i .i64 0]) fun p=>
 bk (Nat.beq p.1 2) (
 gN p.2<|
 some (.i .i64 (-1))) (
 cb (Nat.beq p.1 1)<|
 gC p.2 fun Pf nj=>
 gI .i64 Pf fun x2=>
 gN nj<|
 some (.i .i64 x2))
noncomputable def mA:GT:=bD 177 (hM fp) ni
theorem qc:SG mA:=pE u9 [] 19 [] [] [(2,⟨[0,1,7],[],[(8,.sc (.k (.i .i64)))],[(1,[(4,.sc (.k (.i .i64)))]),(2,[])],[]⟩)] Tryz.func177 (by kernel_rfl) (bU (fun _ _=>by kernel_rfl))
noncomputable def cF (sA f:MV):Option MV:=
 gL sA fun zk=>
 gR f fun f1=>
 bd (fp (.list zk) f1) fun rA=>
 gI .i64 rA fun x=>
 some (.b (decide ((0:Int)≤x)))
noncomputable def kJ:GT:=bD 145 (hM cF) mA
theorem n5:SG kJ:=pE qc [] 9 [] [] [] Tryz.func145 (by kernel_rfl) (bU (fun _ _=>by kernel_rfl))
noncomputable def lS (c a:MV):Option MV:=
 gA c fun cs=>
 cw cs fun SF ST cV Want N bF=>
 gA a fun fg=>
 kb fg fun By View Value=>
 bd (
 bd (ey (.agg (aR SF ST cV Want N bF)) (.i .i64 By) (.b true)) fun rA=>
 gB rA fun x=>
 bk x (
 some [.b true]) (
 bd (cF (.list bF) (.func 179 [.rp [.i .i64 By,.i .i64 View,.s Value]])) fun aY=>
 gB aY fun x1=>
 some [.b x1])) fun vs=>
 gC vs fun m9 pv=>
 gB m9 fun x2=>
 gN pv<|
 some (.b x2)
noncomputable def uS:GT:=bD 148 (hM lS) kJ
theorem xA:SG uS:=pE n5 [] 17 [(2,⟨[2,3,5],[],[],[(0,[(4,.sc (.k .b))])],[]⟩)] [] [] Tryz.func148 (by kernel_rfl) (bU (fun _ _=>by kernel_rfl))
noncomputable def iB (a c:MV):Option MV:=
 gA a fun cs=>
 kb cs fun By View Value=>
 gP c fun fg=>
 cw fg fun SF ST cV Want N bF=>
 bd (lS (.agg (aR SF ST cV Want N bF)) (.agg [.i .i64 By,.i .i64 View,.s Value])) fun rA=>
 gB rA fun x=>
 some (.b (!x))
noncomputable def lC:GT:=bD 147 (hM iB) uS
theorem ta:SG lC:=pE xA [[.i .i64,.i .i64,.l,.l,.l,.l]] 8 [] [] [] Tryz.func147 (by kernel_rfl) (bU (fun _ _=>by kernel_rfl))
noncomputable def dZ:GT:=lC
theorem iO (x0 x1:MV):dZ 147 [x0,x1]=iB x0 x1:=by kernel_rfl
noncomputable def eD (sA f:MV):Option MV:=
 gL sA fun zk=>
 gR f fun f1=>
 bQ zk fun len=>
 bd (Loop (fun u5=>
 gC u5 fun m sn=>
 gI .i64 m fun x=>
 gN sn<|
 bk (decide (x<(len:Int))) (
 idx zk x fun y=>
 gA y fun cs=>
 kb cs fun By View Value=>
 MQ f1 fun fn cap=>
 cb (!gv fn)<|
 bd (dZ fn ([.agg [.i .i64 By,.i .i64 View,.s Value]]++cap)) fun rA=>
 gB rA fun x1=>
 bk x1 (
 some (.inr (1,[.i .i64 x]))) (
 some (.inl [.i .i64 (IntKind.wrap .i64 (x+1))]))) (
 some (.inr (2,[])))) [.i .i64 0]) fun p=>
 bk (Nat.beq p.1 2) (
 gN p.2<|
 some (.i .i64 (-1))) (
 cb (Nat.beq p.1 1)<|
 gC p.2 fun m4 yT=>
 gI .i64 m4 fun x2=>
 gN yT<|
 some (.i .i64 x2))
noncomputable def ln:GT:=bD 178 (hM eD) lC
theorem pa:SG ln:=pE ta [] 19 [] [] [(2,⟨[0,1,7],[],[(8,.sc (.k (.i .i64)))],[(1,[(4,.sc (.k (.i .i64)))]),(2,[])],[]⟩)] Tryz.func178 (by kernel_rfl) (bU (fun _ _=>by kernel_rfl))
noncomputable def dI (sA f:MV):Option MV:=
 gL sA fun zk=>
 gR f fun f1=>
 bd (eD (.list zk) f1) fun rA=>
 gI .i64 rA fun x=>
 some (.b (decide ((0:Int)≤x)))
noncomputable def jA:GT:=bD 146 (hM dI) ln
theorem nk:SG jA:=pE pa [] 9 [] [] [] Tryz.func146 (by kernel_rfl) (bU (fun _ _=>by kernel_rfl))
noncomputable def fq (c lA:MV):Option MV:=
 gA c fun cs=>
 cw cs fun SF ST cV Want N bF=>
 gL lA fun Hd=>
 bd (dI (.list Hd) (.func 147 [.rp (aR SF ST cV Want N bF)])) fun rA=>
 gB rA fun x=>
 some (.b (!x))
noncomputable def rS:GT:=bD 81 (hM fq) jA
theorem vc:SG rS:=pE nk [] 9 [] [] [] Tryz.func81 (by kernel_rfl) (bU (fun _ _=>by kernel_rfl))
noncomputable def j0 (c rA:MV):Option MV:=
 gA c fun cs=>
 cw cs fun SF ST cV Want N bF=>
 gA rA fun fg=>
 fm fg fun By mc Has View Value Proof=>
 bd (
 bd (ey (.agg (aR SF ST cV Want N bF)) (.i .i64 By) (.b true)) fun aY=>
 gB aY fun x=>
 bk x (
 bd (fq (.agg (aR SF ST cV Want N bF)) (.list Proof)) fun b7=>
 gB b7 fun x1=>
 bk x1 (
 some [.b true]) (
 bd (cF (.list bF) (.func 143 [.rp (eC By mc Has View Value Proof)])) fun cu=>
 gB cu fun x2=>
 some [.b x2])) (
 bd (cF (.list bF) (.func 143 [.rp (eC By mc Has View Value Proof)])) fun fB=>
 gB fB fun x3=>
 some [.b x3])) fun vs=>
 gC vs fun Bh kG=>
 gB Bh fun x4=>
 gN kG<|
 some (.b x4)
noncomputable def rT:GT:=bD 80 (hM j0) rS
theorem vd:SG rT:=pE vc [] 23 [(2,⟨[2,3,5],[],[],[(0,[(4,.sc (.k .b))])],[]⟩)] [] [] Tryz.func80 (by kernel_rfl) (bU (fun _ _=>by kernel_rfl))
noncomputable def qd (rA c:MV):Option MV:=
 gA rA fun cs=>
 fm cs fun By mc Has View Value Proof=>
 gP c fun fg=>
 cw fg fun SF ST cV Want N bF=>
 bd (j0 (.agg (aR SF ST cV Want N bF)) (.agg (eC By mc Has View Value Proof))) fun aY=>
 gB aY fun x=>
 some (.b (!x))
noncomputable def uo:GT:=bD 79 (hM qd) rT
theorem Bp:SG uo:=pE vd [[.i .i64,.i .i64,.l,.l,.l,.l]] 8 [] [] [] Tryz.func79 (by kernel_rfl) (bU (fun _ _=>by kernel_rfl))
noncomputable def ec:GT:=uo
theorem lf (x0 x1:MV):ec 79 [x0,x1]=qd x0 x1:=by kernel_rfl
noncomputable def eE (sA f:MV):Option MV:=
 gL sA fun zk=>
 gR f fun f1=>
 bQ zk fun len=>
 bd (Loop (fun u5=>
 gC u5 fun m sn=>
 gI .i64 m fun x=>
 gN sn<|
 bk (decide (x<(len:Int))) (
 idx zk x fun y=>
 gA y fun cs=>
 fm cs fun By mc Has View Value Proof=>
 MQ f1 fun fn cap=>
 cb (!gv fn)<|
 bd (ec fn ([.agg (eC By mc Has View Value Proof)]++cap)) fun rA=>
 gB rA fun x1=>
 bk x1 (
 some (.inr (1,[.i .i64 x]))) (
 some (.inl [.i .i64 (IntKind.wrap .i64 (x+1))]))) (
 some (.inr (2,[])))) [.i .i64 0]) fun p=>
 bk (Nat.beq p.1 2) (
 gN p.2<|
 some (.i .i64 (-1))) (
 cb (Nat.beq p.1 1)<|
 gC p.2 fun m7 ug=>
 gI .i64 m7 fun x2=>
 gN ug<|
 some (.i .i64 x2))
noncomputable def lp:GT:=bD 142 (hM eE) uo
theorem pc:SG lp:=pE Bp [] 19 [] [] [(2,⟨[0,1,7],[],[(8,.sc (.k (.i .i64)))],[(1,[(4,.sc (.k (.i .i64)))]),(2,[])],[]⟩)] Tryz.func142 (by kernel_rfl) (bU (fun _ _=>by kernel_rfl))
noncomputable def dJ (sA f:MV):Option MV:=
 gL sA fun zk=>
 gR f fun f1=>
 bd (eE (.list zk) f1) fun rA=>
 gI .i64 rA fun x=>
 some (.b (decide ((0:Int)≤x)))
noncomputable def jB:GT:=bD 78 (hM dJ) lp
theorem nm:SG jB:=pE pc [] 9 [] [] [] Tryz.func78 (by kernel_rfl) (bU (fun _ _=>by kernel_rfl))
noncomputable def uq (c m:MV):Option MV:=
 gA c fun cs=>
 cw cs fun SF ST cV Want N bF=>
 gA m fun fg=>
 cf fg fun Kind gh View Value fE fH dq cE Proof EM rc rf lm gm fT=>
 bk (decide (Kind=1)) (
 bd (
 bd (ey (.agg (aR SF ST cV Want N bF)) (.i .i64 gh) (.b true)) fun rA=>
 gB rA fun x=>
 bk x (
 bd (dJ (.list fE) (.func 79 [.rp (aR SF ST cV Want N bF)])) fun aY=>
 gB aY fun x1=>
 some [.b (!x1)]) (
 some [.b false])) fun vs=>
 gC vs fun m22 Ab=>
 gB m22 fun x2=>
 gN Ab<|
 some (.b x2)) (
 bk (decide (Kind=2)) (
 bd (ey (.agg (aR SF ST cV Want N bF)) (.i .i64 fH) (.b true)) fun b7=>
 gB b7 fun x3=>
 some (.b x3)) (
 bk (decide (Kind=3)) (
 bd (
 bd (ey (.agg (aR SF ST cV Want N bF)) (.i .i64 gh) (.b true)) fun cu=>
 gB cu fun x4=>
 bk x4 (
 bd (fq (.agg (aR SF ST cV Want N bF)) (.list Proof)) fun fB=>
 gB fB fun x5=>
 some [.b x5]) (
 some [.b false])) fun jC=>
 gC jC fun m23 SW=>
 gB m23 fun x6=>
 gN SW<|
 some (.b x6)) (
 bk (decide (Kind=4)) (
 bd (
 bd (ey (.agg (aR SF ST cV Want N bF)) (.i .i64 EM) (.b true)) fun kC=>
 gB kC fun x7=>
 bk x7 (
 bd (fq (.agg (aR SF ST cV Want N bF)) (.list fT)) fun pD=>
 gB pD fun x8=>
 some [.b x8]) (
 some [.b false])) fun qE=>
 gC qE fun Vi Kp=>
 gB Vi fun x9=>
 gN Kp<|
 some (.b x9)) (
 bk (decide (Kind=5)) (
 bd (ey (.agg (aR SF ST cV Want N bF)) (.i .i64 gh) (.b true)) fun vP=>
 gB vP fun pu=>
 some (.b pu)) (
 some (.b false))))))
noncomputable def EN:GT:=bD 31 (hM uq) jB
theorem EO:SG EN:=zj nm [] [] 59 [] [] [(1,[2])] [] [(3,⟨[2,3],[],[],[(0,[(4,.sc (.k .b))])],[]⟩),(7,⟨[2,3],[],[],[(0,[(4,.sc (.k .b))])],[]⟩),(9,⟨[2,3],[],[],[(0,[(4,.sc (.k .b))])],[]⟩)] [] [] [] Tryz.func31 (by kernel_rfl) (bU (fun _ _=>by kernel_rfl))
noncomputable def dN (sA:MV):Option MV:=
 gL sA fun zk=>
 bQ zk fun len=>
 bQ zk fun eR=>
 cb (decide ((len:Int)=(zk.length:Int)∧(eR:Int)=(zk.length:Int)))<|
 some (.clip zk)
noncomputable def qV:GT:=bD 140 (oV dN) EN
theorem ur:SG qV:=pE EO [] 9 [] [] [] Tryz.func140 (by kernel_rfl) (dY (fun _=>by kernel_rfl))
noncomputable def mB (sA view:MV):Option MV:=
 gA sA fun cs=>
 zi cs fun F T=>
 gI .i64 view fun jz=>
 bd (nZ (.agg [.i .i64 F,.i .i64 T])) fun rA=>
 gI .i64 rA fun x=>
 cb (!decide (x=0))<|
 some (.i .i64 (Int.tmod (imax jz 0) x))
noncomputable def Cj:GT:=bD 42 (hM mB) qV
theorem CI:SG Cj:=pE ur [] 10 [] [] [] Tryz.func42 (by kernel_rfl) (bU (fun _ _=>by kernel_rfl))
noncomputable def lL (rA:MV):Option MV:=
 gA rA fun cs=>
 fm cs fun By mc Has View Value Proof=>
 bd (qT (.list Proof)) fun aY=>
 gT aY fun vs=>
 Iq vs fun x x1 x2=>
 bk (!x2) (
 some (.i .i64 (-1))) (
 some (.i .i64 x))
noncomputable def yf:GT:=bD 123 (oV lL) Cj
theorem Al:SG yf:=pE CI [] 16 [] [] [] Tryz.func123 (by kernel_rfl) (dY (fun _=>by kernel_rfl))
noncomputable def uu (sA:MV):Option MV:=
 gA sA fun cs=>
 zi cs fun F T=>
 bd (gM (.agg [.i .i64 F,.i .i64 T]) (.raw (.complex .f64 4607182418800017408 4607182418800017408))) fun rA=>
 gI .i64 rA fun x=>
 some (.i .i64 x)
noncomputable def EP:GT:=bD 124 (oV uu) yf
theorem EQ:SG EP:=pE Al [] 5 [] [] [] Tryz.func124 (by kernel_rfl) (dY (fun _=>by kernel_rfl))
noncomputable def nn (a a1:MV):Option MV:=
 gA a fun cs=>
 zi cs fun F T=>
 gL a1 fun jm=>
 bQ jm fun len=>
 bd (Loop (fun na=>
 gC na fun m2 yR=>
 gI .i64 m2 fun x=>
 gC yR fun m3 yS=>
 gS m3 fun x1=>
 gC yS fun m4 yT=>
 gI .i64 m4 fun x2=>
 gN yT<|
 bk (decide (x2<(len:Int))) (
 idx jm x2 fun y=>
 gA y fun fg=>
 fm fg fun By mc Has View Value Proof=>
 bd (lL (.agg (eC By mc Has View Value Proof))) fun rA=>
 gI .i64 rA fun x3=>
 bd (
 bk (decide (x<x3)) (
 idx Proof 0 fun y1=>
 gA y1 fun nF=>
 kb nF fun Iw eh bJ=>
 some (0,[.i .i64 x3,.s bJ])) (
 some (0,[.i .i64 x,.s x1]))) fun p1=>
 cb (Nat.beq p1.1 0)<|
 gC p1.2 fun Ip s6=>
 gI .i64 Ip fun x4=>
 gC s6 fun Pe ER=>
 gS Pe fun x5=>
 gN ER<|
 some (.inl [.i .i64 x4,.s x5,.i .i64 (IntKind.wrap .i64 (x2+1))])) (
 some (.inr (2,[.i .i64 x,.s x1])))) [.i .i64 (-1),.s ([]:List UInt8),.i .i64 0]) fun p=>
 cb (Nat.beq p.1 2)<|
 gC p.2 fun Pf nj=>
 gI .i64 Pf fun x6=>
 gC nj fun Bi kH=>
 gS Bi fun x7=>
 gN kH<|
 bQ jm fun eR=>
 bd (Loop (fun o7=>
 Bj o7 fun es x8=>
 bk (decide (x8<(eR:Int))) (
 idx jm x8 fun y2=>
 gA y2 fun tw=>
 fm tw fun By2 Pn Aj Cd ic mh=>
 bd (
 bk Aj (
 some [.b (decide (x6<Cd))]) (
 some [.b false])) fun vs=>
 gC vs fun Yc Es=>
 gB Yc fun x9=>
 gN Es<|
 bd (
 bk x9 (
 some (0,[.list (qy (lv es ([.s ic]:List MV) (.i .i64 0)) (b8 es ([.s ic]:List MV)) (.i .i64 (IntKind.wrap .i64 ((lE es ([.s ic]:List MV))+1))))])) (
 some (0,[.list es]))) fun p3=>
 cb (Nat.beq p3.1 0)<|
 gC p3.2 fun m27 Kl=>
 gL m27 fun Y7=>
 gN Kl<|
 some (.inl [.list Y7,.i .i64 (IntKind.wrap .i64 (x8+1))])) (
 some (.inr (4,[.list es])))) [.list ([]:List MV),.i .i64 0]) fun p2=>
 cb (Nat.beq p2.1 4)<|
 gC p2.2 fun m28 EJ=>
 gL m28 fun Xf=>
 gN EJ<|
 bd (tS (fun Zv=>L3 Zv fun key n=>
 bd (uu (.agg [.i .i64 F,.i .i64 T])) fun aY=>
 gI .i64 aY fun pu=>
 bk (decide (pu≤n)) (
 some (.inr (1,[.s key,.b true]))) (
 some (.inl ()))) (
 some (6,[])) Xf) fun p4=>
 bk (Nat.beq p4.1 6) (
 gN p4.2<|
 some (.dr [.s x7,.b (decide (((-1):Int)<x6))])) (
 cb (Nat.beq p4.1 1)<|
 gC p4.2 fun Yf Kr=>
 gS Yf fun pZ=>
 gC Kr fun m31 SX=>
 gB m31 fun qN=>
 gN SX<|
 some (.dr [.s pZ,.b qN]))
noncomputable def Am:GT:=bD 60 (hM nn) EP
theorem Bq:SG Am:=fnX EQ [] [] 70 [] [] [] [(7,[0,1,2,3,4,5,6,7])] [(13,⟨[2,6,7,11,13,35,36,37],[],[],[(0,[(48,.sc (.k .b))])],[]⟩)] [(14,⟨[2,6,7,13,35,36,37],[],[],[(0,[(11,.mp ⟨false,[.s],false⟩)])],[]⟩),(7,⟨[1,2,9,10,16,17,18],[],[],[(0,[(6,.sc (.k (.i .i64))),(7,.sc (.k .s))])],[]⟩)] [(17,⟨[2,6,7,11,56],[],[],[(1,[(4,.sc (.k .s)),(5,.sc (.k .b))]),(6,[])],[]⟩),(11,⟨[2,6,7,35,36],[],[(11,.mp ⟨false,[.s],false⟩),(37,.sc (.k (.i .i64)))],[(4,[(11,.mp ⟨false,[.s],false⟩)])],[]⟩),(3,⟨[1,2,16,17],[],[(6,.sc (.k (.i .i64))),(7,.sc (.k .s)),(18,.sc (.k (.i .i64)))],[(2,[(6,.sc (.k (.i .i64))),(7,.sc (.k .s))])],[]⟩)] [] Tryz.func60 (by kernel_rfl) (bU (fun _ _=>by kernel_rfl))
noncomputable def tc (sA:MV):Option MV:=
 gA sA fun cs=>
 zi cs fun F T=>
 bd (gM (.agg [.i .i64 F,.i .i64 T]) (.raw (.complex .f64 4611686018427387904 4611686018427387904))) fun rA=>
 gI .i64 rA fun x=>
 some (.i .i64 x)
noncomputable def He:GT:=bD 58 (oV tc) Am
theorem FY:SG He:=pE Bq [] 5 [] [] [] Tryz.func58 (by kernel_rfl) (dY (fun _=>by kernel_rfl))
noncomputable def qW (a a1:MV):Option MV:=
 gA a fun cs=>
 zi cs fun F T=>
 gA a1 fun fg=>
 fm fg fun By mc Has View Value Proof=>
 bd (
 bd (jn (.agg [.i .i64 F,.i .i64 T])) fun rA=>
 gB rA fun x=>
 bk (!x) (
 some [.b true]) (
 bk (decide (By<0)) (
 some [.b true]) (
 bd (nZ (.agg [.i .i64 F,.i .i64 T])) fun aY=>
 gI .i64 aY fun x1=>
 bk (decide (x1≤By)) (
 some [.b true]) (
 bk (decide (mc<1)) (
 some [.b true]) (
 some [.b (decide ((100000:Int)<mc))]))))) fun vs=>
 gC vs fun m8 ug=>
 gB m8 fun x2=>
 gN ug<|
 bk x2 (
 some (.b false)) (
 bd (
 bk (!Has) (
 bk (!decide (View=0)) (
 some [.b true]) (
 some [.b (!decide (Value=([]:List UInt8)))])) (
 some [.b false])) fun jC=>
 gC jC fun m9 pv=>
 gB m9 fun x3=>
 gN pv<|
 bk x3 (
 some (.b false)) (
 bd (
 bk Has (
 bk (decide (View<0)) (
 some [.b true]) (
 bk (decide (mc≤View)) (
 some [.b true]) (
 some [.b (decide ((6000:Int)<(Value.length:Int)))]))) (
 some [.b false])) fun qE=>
 gC qE fun Kf qO=>
 gB Kf fun x4=>
 gN qO<|
 bk x4 (
 some (.b false)) (
 bd (
 bQ Proof fun len=>
 bk (decide ((len:Int)=0)) (
 some [.b true]) (
 bd (mz (.agg [.i .i64 F,.i .i64 T]) (.list Proof)) fun b7=>
 gB b7 fun x5=>
 bk x5 (
 bd (lL (.agg (eC By mc Has View Value Proof))) fun cu=>
 gI .i64 cu fun x6=>
 some [.b (decide (x6<mc))]) (
 some [.b false]))) fun SU=>
 gC SU fun Kg s4=>
 gB Kg fun x7=>
 gN s4<|
 some (.b x7))))
noncomputable def ES:GT:=bD 107 (hM qW) He
theorem ET:SG ES:=zj FY [] [] 83 [] [] [] [(1,[0,1,2,3,4,5,6,7,8,9,10,11,12,13,14,15,16,17,18,19,20,21,22,23,24,25]),(7,[0,1,2,3,4,5,6,7,8,9,10,12,13,11,14,15,16,17])] [(7,⟨[2,3],[],[],[(0,[(4,.sc (.k .b))])],[]⟩),(5,⟨[2,3],[],[],[(0,[(45,.sc (.k .b))])],[]⟩),(3,⟨[2,3],[],[],[(0,[(31,.sc (.k .b))])],[]⟩),(1,⟨[2,3],[],[],[(0,[(5,.sc (.k .b))])],[]⟩)] [] [] [] Tryz.func107 (by kernel_rfl) (bU (fun _ _=>by kernel_rfl))
noncomputable def qe (sA view lA:MV):Option MV:=
 gA sA fun cs=>
 zi cs fun F T=>
 gI .i64 view fun jz=>
 gL lA fun Hd=>
 bd (
 bd (jn (.agg [.i .i64 F,.i .i64 T])) fun rA=>
 gB rA fun x=>
 bk (!x) (
 some [.b true]) (
 bQ Hd fun len=>
 bd (tc (.agg [.i .i64 F,.i .i64 T])) fun aY=>
 gI .i64 aY fun x1=>
 some [.b (!decide ((len:Int)=x1))])) fun vs=>
 gC vs fun m2 na=>
 gB m2 fun x2=>
 gN na<|
 bk x2 (
 some (.b false)) (
 bQ Hd fun eR=>
 bd (Loop (fun yR=>
 zi yR fun last x3=>
 bk (decide (x3<(eR:Int))) (
 idx Hd x3 fun y=>
 gA y fun fg=>
 fm fg fun By mc Has View Value Proof=>
 bd (
 bd (qW (.agg [.i .i64 F,.i .i64 T]) (.agg (eC By mc Has View Value Proof))) fun b7=>
 gB b7 fun x4=>
 bk (!x4) (
 some [.b true]) (
 bk (!decide (mc=jz)) (
 some [.b true]) (
 some [.b (decide (By≤last))]))) fun jC=>
 gC jC fun Kg kG=>
 gB Kg fun x5=>
 gN kG<|
 bk x5 (
 some (.inr (1,[.b false]))) (
 some (.inl [.i .i64 By,.i .i64 (IntKind.wrap .i64 (x3+1))]))) (
 some (.inr (2,[])))) [.i .i64 (-1),.i .i64 0]) fun p=>
 bk (Nat.beq p.1 2) (
 gN p.2<|
 some (.b true)) (
 cb (Nat.beq p.1 1)<|
 gC p.2 fun Bh qP=>
 gB Bh fun x6=>
 gN qP<|
 some (.b x6)))
noncomputable def An:GT:=bD 153 (yG qe) ES
theorem Br:SG An:=pE ET [] 45 [(7,⟨[1,3,7,9,20,21,22],[],[],[(0,[(41,.sc (.k .b))])],[]⟩),(1,⟨[1,2,3],[],[],[(0,[(19,.sc (.k .b))])],[]⟩)] [] [(5,⟨[1,3,20,21],[],[(7,.sc (.k (.i .i64))),(22,.sc (.k (.i .i64)))],[(1,[(6,.sc (.k .b))]),(2,[])],[]⟩)] Tryz.func153 (by kernel_rfl) (kU (fun _ _ _=>by kernel_rfl))
noncomputable def np (sA view lA value:MV):Option MV:=
 gA sA fun cs=>
 zi cs fun F T=>
 gI .i64 view fun jz=>
 gL lA fun Hd=>
 gS value fun n4=>
 bd (qe (.agg [.i .i64 F,.i .i64 T]) (.i .i64 jz) (.list Hd)) fun rA=>
 gB rA fun x=>
 bk (!x) (
 some (.b false)) (
 bd (nn (.agg [.i .i64 F,.i .i64 T]) (.list Hd)) fun aY=>
 gT aY fun vs=>
 gC vs fun m2 na=>
 gS m2 fun x1=>
 gC na fun m3 yR=>
 gB m3 fun x2=>
 gN yR<|
 bd (
 bk (!x2) (
 some [.b true]) (
 some [.b (decide (x1=n4))])) fun jC=>
 gC jC fun m4 yS=>
 gB m4 fun x3=>
 gN yS<|
 some (.b x3))
noncomputable def wm:GT:=bD 96 (L8 np) An
theorem yW:SG wm:=pE Br [] 29 [(4,⟨[3,9,10],[],[],[(0,[(8,.sc (.k .b))])],[]⟩)] [] [] Tryz.func96 (by kernel_rfl) (zX (fun _ _ _ _=>by kernel_rfl))
noncomputable def lg (a view value z1:MV):Option MV:=
 gA a fun cs=>
 fA cs fun SF ST Me View Has At Value Proof fS=>
 gI .i64 view fun jz=>
 gS value fun n4=>
 gL z1 fun Wr=>
 bd (
 bk (!decide (jz=View)) (
 some [.b true]) (
 bk Has (
 bk (decide (At=jz)) (
 some [.b true]) (
 some [.b (decide ((6000:Int)<(n4.length:Int)))])) (
 some [.b (decide ((6000:Int)<(n4.length:Int)))]))) fun vs=>
 gC vs fun m9 pv=>
 gB m9 fun x=>
 gN pv<|
 bk x (
 some (.dr [.agg (cq SF ST Me View Has At Value Proof fS),.agg [.i .i64 0,.i .i64 0,.s ([]:List UInt8)],.b false])) (
 bd (
 bk (decide (jz=0)) (
 bQ Wr fun len=>
 some [.b (decide ((len:Int)=0))]) (
 some [.b false])) fun jC=>
 gC jC fun Kf qO=>
 gB Kf fun x1=>
 gN qO<|
 bd (
 bk x1 (
 some (0,[.i .i64 0,.i .i64 0,.i .i64 0,.i .i64 0,.b false,.i .i64 0,.s ([]:List UInt8),.list ([]:List MV),.list ([]:List MV),.i .i64 0,.i .i64 0,.s ([]:List UInt8)])) (
 bd (np (.agg [.i .i64 SF,.i .i64 ST]) (.i .i64 jz) (.list Wr) (.s n4)) fun rA=>
 gB rA fun x2=>
 bk (!x2) (
 some (1,[.i .i64 SF,.i .i64 ST,.i .i64 Me,.i .i64 View,.b Has,.i .i64 At,.s Value,.list Proof,.list fS,.i .i64 0,.i .i64 0,.s ([]:List UInt8),.b false])) (
 some (0,[.i .i64 0,.i .i64 0,.i .i64 0,.i .i64 0,.b false,.i .i64 0,.s ([]:List UInt8),.list ([]:List MV),.list ([]:List MV),.i .i64 0,.i .i64 0,.s ([]:List UInt8)])))) fun p=>
 bk (Nat.beq p.1 1) (
 gC p.2 fun Kg s4=>
 gI .i64 Kg fun x3=>
 gC s4 fun Bh kG=>
 gI .i64 Bh fun x4=>
 gC kG fun Io qP=>
 gI .i64 Io fun x5=>
 gC qP fun Ip s5=>
 gI .i64 Ip fun x6=>
 gC s5 fun Pe s6=>
 gB Pe fun x7=>
 gC s6 fun Pf ER=>
 gI .i64 Pf fun x8=>
 gC ER fun Bi nj=>
 gS Bi fun x9=>
 gC nj fun FQ kH=>
 gL FQ fun pu=>
 gC kH fun Pl o7=>
 gL Pl fun pZ=>
 gC o7 fun Pm o8=>
 gI .i64 Pm fun qN=>
 Iq o8 fun qp rO uZ=>
 some (.dr [.agg (cq x3 x4 x5 x6 x7 x8 x9 pu pZ),.agg [.i .i64 qN,.i .i64 qp,.s rO],.b uZ])) (
 cb (Nat.beq p.1 0)<|
 gC p.2 fun Vi EU=>
 gI .i64 Vi fun xZ=>
 gC EU fun m25 SR=>
 gI .i64 m25 fun uQ=>
 gC SR fun Yc SY=>
 gI .i64 Yc fun FR=>
 gC SY fun m27 Er=>
 gI .i64 m27 fun PW=>
 gC Er fun m28 Es=>
 gB m28 fun NR=>
 gC Es fun Zv Kl=>
 gI .i64 Zv fun PX=>
 gC Kl fun Yf EJ=>
 gS Yf fun NS=>
 gC EJ fun m31 Kr=>
 gL m31 fun TE=>
 gC Kr fun m32 SX=>
 gL m32 fun TF=>
 kb SX fun SI SJ SK=>
 some (.dr [.agg (cq SF ST Me View true jz n4 Proof fS),.agg [.i .i64 Me,.i .i64 jz,.s n4],.b true])))
noncomputable def td:GT:=bD 43 (L8 lg) wm
theorem wo:SG td:=zj yW [] [] 62 [] [58] [(7,[4])] [(7,[0,1,2,3,4,5,6,7,8])] [(3,⟨[1,2,3,4,8,9],[],[],[(0,[(33,.sc (.k .b))])],[]⟩),(1,⟨[1,2,3,4,8,9],[],[],[(0,[(11,.sc (.k .b))])],[]⟩)] [(4,⟨[1,2,3,4],[],[],[(0,[(8,.box [.k (.i .i64),.k (.i .i64),.k (.i .i64),.k (.i .i64),.k .b,.k (.i .i64),.k .s,.k .l,.k .l]),(9,.box [.k (.i .i64),.k (.i .i64),.k .s])]),(1,[(8,.box [.k (.i .i64),.k (.i .i64),.k (.i .i64),.k (.i .i64),.k .b,.k (.i .i64),.k .s,.k .l,.k .l]),(9,.box [.k (.i .i64),.k (.i .i64),.k .s]),(10,.sc (.k .b))])],[]⟩)] [] [] Tryz.func43 (by kernel_rfl) (zX (fun _ _ _ _=>by kernel_rfl))
noncomputable def nq (x:MV):Option MV:=
 gI .i64 x fun x1=>
 some (.b (!decide (x1=x1)))
noncomputable def Ao:GT:=bD 162 (oV nq) td
theorem Bs:SG Ao:=pE wo [] 6 [] [] [] Tryz.func162 (by kernel_rfl) (dY (fun _=>by kernel_rfl))
noncomputable def kK (x y:MV):Option MV:=
 gI .i64 x fun x1=>
 gI .i64 y fun y1=>
 bd (nq (.i .i64 x1)) fun rA=>
 gB rA fun x2=>
 bd (nq (.i .i64 y1)) fun aY=>
 gB aY fun x3=>
 bk x2 (
 bk x3 (
 some (.i .i64 0)) (
 some (.i .i64 (-1)))) (
 bk x3 (
 some (.i .i64 1)) (
 bk (decide (x1<y1)) (
 some (.i .i64 (-1))) (
 bk (decide (y1<x1)) (
 some (.i .i64 1)) (
 some (.i .i64 0)))))
noncomputable def wu:GT:=bD 106 (hM kK) Ao
theorem yX:SG wu:=pE Bs [] 20 [] [] [] Tryz.func106 (by kernel_rfl) (bU (fun _ _=>by kernel_rfl))
noncomputable def rU (x tx:MV):Option MV:=
 gA x fun cs=>
 kb cs fun By View Value=>
 gI .i64 tx fun Mk=>
 bd (kK (.i .i64 By) (.i .i64 Mk)) fun rA=>
 gI .i64 rA fun x1=>
 some (.i .i64 x1)
noncomputable def wv:GT:=bD 155 (hM rU) wu
theorem CJ:SG wv:=pE yX [] 9 [] [] [] Tryz.func155 (by kernel_rfl) (bU (fun _ _=>by kernel_rfl))
noncomputable def cy:GT:=wv
theorem ig (x0 x1:MV):cy 155 [x0,x1]=rU x0 x1:=by kernel_rfl
noncomputable def cN (x target cmp:MV):Option MV:=
 gL x fun x1=>
 gI .i64 target fun Ap=>
 gR cmp fun SZ=>
 bQ x1 fun len=>
 bd (Loop (fun u5=>
 zi u5 fun i j=>
 bk (decide (i<j)) (
 cb (decide ((0:Int)≤1))<|
 idx x1 (IntKind.wrap .i64 (Int.fdiv (IntKind.wrap .u64 (IntKind.wrap .i64 (i+j))) (2^min (Int.toNat 1) (IntKind.bits .u64)))) fun y=>
 gA y fun cs=>
 kb cs fun By View Value=>
 MQ SZ fun fn cap=>
 cb (!gv fn)<|
 bd (cy fn ([.agg [.i .i64 By,.i .i64 View,.s Value],.i .i64 Ap]++cap)) fun rA=>
 gI .i64 rA fun x2=>
 bd (
 bk (decide (x2<0)) (
 some (0,[.i .i64 (IntKind.wrap .i64 ((IntKind.wrap .i64 (Int.fdiv (IntKind.wrap .u64 (IntKind.wrap .i64 (i+j))) (2^min (Int.toNat 1) (IntKind.bits .u64))))+1)),.i .i64 j])) (
 some (0,[.i .i64 i,.i .i64 (IntKind.wrap .i64 (Int.fdiv (IntKind.wrap .u64 (IntKind.wrap .i64 (i+j))) (2^min (Int.toNat 1) (IntKind.bits .u64))))]))) fun p1=>
 cb (Nat.beq p1.1 0)<|
 Wn .i64 .i64 p1.2 fun i1 j1=>
 some (.inl [.i .i64 i1,.i .i64 j1])) (
 some (.inr (2,[.i .i64 i])))) [.i .i64 0,.i .i64 (len:Int)]) fun p=>
 cb (Nat.beq p.1 2)<|
 gC p.2 fun m7 ug=>
 gI .i64 m7 fun i2=>
 gN ug<|
 bd (
 bk (decide (i2<(len:Int))) (
 idx x1 i2 fun y1=>
 gA y1 fun fg=>
 kb fg fun Iw eh bJ=>
 MQ SZ fun xn pe=>
 cb (!gv xn)<|
 bd (cy xn ([.agg [.i .i64 Iw,.i .i64 eh,.s bJ],.i .i64 Ap]++pe)) fun aY=>
 gI .i64 aY fun x3=>
 some [.i .i64 i2,.b (decide (x3=0))]) (
 some [.i .i64 i2,.b false])) fun vs=>
 gC vs fun Kg kG=>
 gI .i64 Kg fun x4=>
 gC kG fun Bh qP=>
 gB Bh fun x5=>
 gN qP<|
 some (.dr [.i .i64 x4,.b x5])
noncomputable def fM:GT:=bD 154 (yG cN) wv
theorem ke:SG fM:=pE CJ [] 49 [(8,⟨[0,1,2,8,9],[],[],[(0,[(6,.sc (.k (.i .i64))),(7,.sc (.k .b))])],[]⟩)] [(6,⟨[0,1,2,8,11],[],[],[(0,[(9,.sc (.k (.i .i64))),(10,.sc (.k (.i .i64)))])],[]⟩)] [(3,⟨[0,1,2,8],[],[(9,.sc (.k (.i .i64))),(10,.sc (.k (.i .i64)))],[(2,[(9,.sc (.k (.i .i64)))])],[]⟩)] Tryz.func154 (by kernel_rfl) (kU (fun _ _ _=>by kernel_rfl))
noncomputable def n6 (t a:MV):Option MV:=
 gA t fun cs=>
 gC cs fun m u5=>
 gL m fun L=>
 gN u5<|
 gA a fun fg=>
 kb fg fun By View Value=>
 bd (kZ (.agg [.i .i64 By,.i .i64 View,.s Value])) fun rA=>
 gB rA fun x=>
 bk (!x) (
 some (.dr [.agg [.list L],.b false])) (
 bd (cN (.list L) (.i .i64 By) (.func 155 [])) fun aY=>
 gT aY fun vs=>
 gC vs fun m4 yS=>
 gI .i64 m4 fun x1=>
 gC yS fun m5 yT=>
 gB m5 fun x2=>
 gN yT<|
 bd (
 bk x2 (
 idx L x1 fun y=>
 gA y fun nF=>
 kb nF fun Iw eh bJ=>
 some [.b (decide (View≤eh))]) (
 some [.b false])) fun jC=>
 gC jC fun m9 pv=>
 gB m9 fun x3=>
 gN pv<|
 bk x3 (
 some (.dr [.agg [.list L],.b false])) (
 bd (gZ 3 32 [.list L]) fun b7=>
 gF b7 fun xs=>
 bd (
 bk x2 (
 idx xs x1 fun y1=>
 gA y1 fun tw=>
 kb tw fun By2 Cd ic=>
 some (0,[.list (xs.set (Int.toNat x1) (.agg [.i .i64 By,.i .i64 View,.s Value]))])) (
 bd (mP 32 [.fresh xs,.i .i64 x1,.fresh ([.agg [.i .i64 By,.i .i64 View,.s Value]]:List MV)]) fun cu=>
 gF cu fun Ey=>
 some (0,[.list Ey]))) fun p=>
 cb (Nat.beq p.1 0)<|
 gC p.2 fun Io qP=>
 gL Io fun lA=>
 gN qP<|
 some (.dr [.agg [.list lA],.b true])))
noncomputable def Hf:GT:=bD 97 (hM n6) fM
theorem FZ:SG Hf:=zj ke [] [] 49 [] [] [] [(4,[0,1,2,3,4,5,6,7,8,9,10,11])] [(4,⟨[2,3,4,6,7],[],[],[(0,[(32,.sc (.k .b))])],[45,46]⟩)] [(8,⟨[3,4,6],[],[],[(0,[(8,.sc (.own 36 58 false))])],[45,46]⟩)] [] [] Tryz.func97 (by kernel_rfl) (bU (fun _ _=>by kernel_rfl))
noncomputable def mi (a a1:MV):Option MV:=
 gA a fun cs=>
 gC cs fun m u5=>
 gL m fun L=>
 gN u5<|
 gI .i64 a1 fun jm=>
 bQ L fun len=>
 bd (Loop (fun sn=>
 Bj sn fun es x=>
 bk (decide (x<(len:Int))) (
 idx L x fun y=>
 gA y fun fg=>
 kb fg fun By View Value=>
 cb (decide ((0:Int)≤(b8 es ([.i .i64 View,.s Value]:List MV):Int)∧Int.toNat (b8 es ([.i .i64 View,.s Value]:List MV):Int)<(lv es ([.i .i64 View,.s Value]:List MV) (.i .i64 0)).length))<|
 some (.inl [.list (qy (lv es ([.i .i64 View,.s Value]:List MV) (.i .i64 0)) (Int.toNat (b8 es ([.i .i64 View,.s Value]:List MV):Int)) (.i .i64 (IntKind.wrap .i64 ((lE es ([.i .i64 View,.s Value]:List MV))+1)))),.i .i64 (IntKind.wrap .i64 (x+1))])) (
 some (.inr (2,[.list es])))) [.list ([]:List MV),.i .i64 0]) fun p=>
 cb (Nat.beq p.1 2)<|
 gC p.2 fun m6 wa=>
 gL m6 fun Y7=>
 gN wa<|
 bQ L fun eR=>
 bd (Loop (fun ug=>
 gC ug fun m7 pv=>
 gI .i64 m7 fun x1=>
 gC pv fun m8 qO=>
 gS m8 fun x2=>
 gC qO fun m9 s4=>
 gB m9 fun x3=>
 gC s4 fun Kf kG=>
 gI .i64 Kf fun x4=>
 gN kG<|
 bk (decide (x4<(eR:Int))) (
 idx L x4 fun y1=>
 gA y1 fun nF=>
 kb nF fun Iw eh bJ=>
 bd (
 bk (decide ((1:Int)≤jm)) (
 bk (decide (jm≤(lE Y7 ([.i .i64 eh,.s bJ]:List MV)))) (
 some [.b (decide (x1<eh))]) (
 some [.b false])) (
 some [.b false])) fun vs=>
 gC vs fun Ip ER=>
 gB Ip fun x5=>
 gN ER<|
 bd (
 bk x5 (
 some (0,[.i .i64 eh,.s bJ,.b true])) (
 some (0,[.i .i64 x1,.s x2,.b x3]))) fun p2=>
 cb (Nat.beq p2.1 0)<|
 Vb .i64 p2.2 fun x6 x7 x8=>
 some (.inl [.i .i64 x6,.s x7,.b x8,.i .i64 (IntKind.wrap .i64 (x4+1))])) (
 some (.inr (4,[.i .i64 x1,.s x2,.b x3])))) [.i .i64 (-1),.s ([]:List UInt8),.b false,.i .i64 0]) fun p1=>
 cb (Nat.beq p1.1 4)<|
 Vb .i64 p1.2 fun x9 pu pZ=>
 bk (!pZ) (
 some (.dr [.i .i64 0,.s ([]:List UInt8),.b false])) (
 some (.dr [.i .i64 x9,.s pu,.b true]))
noncomputable def EV:GT:=bD 158 (hM mi) Hf
theorem EW:SG EV:=zj FZ [] [] 71 [] [] [] [(5,[0,1,2,3,4,5,6,7,8,9,10]),(17,[0,1,2,3,4,5,6])] [(12,⟨[1,7,10,11,14,36,37,38],[],[],[(0,[(62,.sc (.k .b))])],[]⟩)] [(13,⟨[1,7,14,36,37,38],[],[],[(0,[(10,.box [.k (.i .i64),.k .s]),(11,.sc (.k .b))])],[]⟩)] [(9,⟨[1,7,36,37],[],[(10,.box [.k (.i .i64),.k .s]),(11,.sc (.k .b)),(38,.sc (.k (.i .i64)))],[(4,[(10,.box [.k (.i .i64),.k .s]),(11,.sc (.k .b))])],[]⟩),(3,⟨[1,2,17,18],[],[(7,.mp ⟨true,[.i .i64,.s],false⟩),(19,.sc (.k (.i .i64)))],[(2,[(7,.mp ⟨true,[.i .i64,.s],false⟩)])],[]⟩)] [] Tryz.func158 (by kernel_rfl) (bU (fun _ _=>by kernel_rfl))
noncomputable def uv (sA t:MV):Option MV:=
 gA sA fun cs=>
 zi cs fun F T=>
 gA t fun fg=>
 gC fg fun m2 na=>
 gL m2 fun L=>
 gN na<|
 bd (mg (.agg [.i .i64 F,.i .i64 T])) fun rA=>
 gI .i64 rA fun x=>
 bd (mi (.agg [.list L]) (.i .i64 x)) fun aY=>
 gT aY fun vs=>
 Iq vs fun x1 x2 x3=>
 bk (!x3) (
 some (.dr [.list ([]:List MV),.b false])) (
 bd (ng (.agg [.list L]) (.i .i64 x1) (.s x2)) fun b7=>
 gL b7 fun x4=>
 bd (mg (.agg [.i .i64 F,.i .i64 T])) fun cu=>
 gI .i64 cu fun x5=>
 bQ x4 fun len=>
 cb (decide ((0:Int)≤0∧(0:Int)≤x5∧x5≤(len:Int)))<|
 some (.dr [.list (List.drop (Int.toNat 0) (List.take (Int.toNat x5) x4)),.b true]))
noncomputable def EX:GT:=bD 98 (hM uv) EV
theorem EY:SG EX:=zj EW [] [] 26 [] [] [] [(1,[0,1,2,3,4,5,6,7,8,9,10]),(4,[0,1,2,4,3,5,6,7,8])] [] [] [] [] Tryz.func98 (by kernel_rfl) (bU (fun _ _=>by kernel_rfl))
noncomputable def oJ (a a1:MV):Option MV:=
 gA a fun cs=>
 fA cs fun SF ST Me View Has At Value Proof fS=>
 gA a1 fun fg=>
 kb fg fun By eh bJ=>
 bd (
 bd (nZ (.agg [.i .i64 SF,.i .i64 ST])) fun rA=>
 gI .i64 rA fun x=>
 bk (decide (x≤By)) (
 some [.b true]) (
 some [.b (!decide (eh=View))])) fun vs=>
 gC vs fun Bh kG=>
 gB Bh fun x1=>
 gN kG<|
 bk x1 (
 some (.dr [.agg (cq SF ST Me View Has At Value Proof fS),.list ([]:List MV),.b false])) (
 bd (n6 (.agg [.list fS]) (.agg [.i .i64 By,.i .i64 eh,.s bJ])) fun aY=>
 gT aY fun jC=>
 gC jC fun Io qP=>
 gA Io fun nF=>
 gC nF fun Ip s5=>
 gL Ip fun L=>
 gN s5<|
 gC qP fun Pe s6=>
 gB Pe fun x2=>
 gN s6<|
 bd (uv (.agg [.i .i64 SF,.i .i64 ST]) (.agg [.list L])) fun b7=>
 gT b7 fun qE=>
 gC qE fun Pf ER=>
 gL Pf fun x3=>
 gC ER fun Bi nj=>
 gB Bi fun x4=>
 gN nj<|
 bd (qT (.list Proof)) fun cu=>
 gT cu fun SU=>
 Iq SU fun x5 x6 x7=>
 bd (
 bd (kZ (.agg [.i .i64 By,.i .i64 eh,.s bJ])) fun fB=>
 gB fB fun x8=>
 bk (!x8) (
 some [.b true]) (
 bk (!x4) (
 some [.b true]) (
 some [.b (decide (View≤x5))]))) fun vs4=>
 gC vs4 fun m21 Ab=>
 gB m21 fun x9=>
 gN Ab<|
 bk x9 (
 some (.dr [.agg (cq SF ST Me View Has At Value Proof L),.list ([]:List MV),.b false])) (
 some (.dr [.agg (cq SF ST Me View Has At Value x3 L),.list x3,.b true])))
noncomputable def yg:GT:=bD 44 (hM oJ) EX
theorem Aq:SG yg:=zj EY [] [] 67 [] [] [] [(1,[0,1,2,3,4,5,6,7,8,9,10,11,12])] [(6,⟨[2,3,4,7,8,9],[],[],[(0,[(61,.sc (.k .b))])],[]⟩),(1,⟨[2,3,4],[],[],[(0,[(24,.sc (.k .b))])],[]⟩)] [] [] [] Tryz.func44 (by kernel_rfl) (bU (fun _ _=>by kernel_rfl))
noncomputable def te (sA:MV):Option MV:=
 gA sA fun cs=>
 zi cs fun F T=>
 bd (gM (.agg [.i .i64 F,.i .i64 T]) (.raw (.complex .f64 4613937818241073152 4607182418800017408))) fun rA=>
 gI .i64 rA fun x=>
 some (.i .i64 x)
noncomputable def qq:GT:=bD 28 (oV te) yg
theorem F1:SG qq:=pE Aq [] 5 [] [] [] Tryz.func28 (by kernel_rfl) (dY (fun _=>by kernel_rfl))
noncomputable def nr:Ctx:=IY qq [(1,1002001)] 54 [] [] [] [(1,[0,1,2,3,4,5,6,7,8,9,10,11,12,13,14,15,16,17,18,19]),(3,[0,1,2,3,4,5,6,7,8,9,10])] [(1,⟨[1,3,4,6,1002001],[],[],[(0,[(32,.sc (.k .b))])],[]⟩)] [] [] []
noncomputable def eK (lA:MV) (t:List MV) (a:MV) (bM:MV):Option MV:=
 gA lA fun cs=>
 fe cs fun SF ST eI eJ nK ch Value=>
 gA a fun fg=>
 kb fg fun By View bJ=>
 gI .i64 bM fun Ks=>
 fe t fun u6 u7 dw dx jo pH ic=>
 bd (
 bk ch (
 some [.b true]) (
 bk (decide (By<0)) (
 some [.b true]) (
 bd (nZ (.agg [.i .i64 SF,.i .i64 ST])) fun rA=>
 gI .i64 rA fun x=>
 bk (decide (x≤By)) (
 some [.b true]) (
 bd (kZ (.agg [.i .i64 By,.i .i64 View,.s bJ])) fun aY=>
 gB aY fun x1=>
 some [.b (!x1)])))) fun vs=>
 gC vs fun Bi nj=>
 gB Bi fun x2=>
 gN nj<|
 bk x2 (
 some (.eF (.dr [.b false,.s ([]:List UInt8)]) (cj u6 u7 dw dx jo pH ic))) (
 bd (n6 (.agg [.list dw]) (.agg [.i .i64 By,.i .i64 View,.s bJ])) fun b7=>
 gT b7 fun jC=>
 gC jC fun FQ kH=>
 gA FQ fun nF=>
 gC nF fun Pl o7=>
 gL Pl fun L=>
 gN o7<|
 gC kH fun Pm o8=>
 gB Pm fun x3=>
 gN o8<|
 bd (mi (.agg [.list L]) (.i .i64 Ks)) fun cu=>
 gT cu fun qE=>
 Iq qE fun x4 x5 x6=>
 some (.eF (.dr [.b x6,.s x5]) (cj u6 u7 L dx jo pH ic)))
theorem su (lA:MV) (t:List MV) (a:MV) (bM:MV):zn nr [] 1 G6 Tryz.f101 [lA,.cell (.func 2 t),a,bM]=eK lA t a bM:=by kernel_rfl
noncomputable def nt:Ctx:=IY qq [(1,1003001)] 54 [] [] [] [(1,[0,1,2,3,4,5,6,7,8,9,10,11,12,13,14,15,16,17,18,19]),(3,[0,1,2,3,4,5,6,7,8,9,10])] [(1,⟨[1,3,4,6,1003001],[],[],[(0,[(32,.sc (.k .b))])],[]⟩)] [] [] []
noncomputable def eL (lA:MV) (t:List MV) (a:MV) (bM:MV):Option MV:=
 gA lA fun cs=>
 fe cs fun SF ST eI eJ nK ch Value=>
 gA a fun fg=>
 kb fg fun By View bJ=>
 gI .i64 bM fun Ks=>
 fe t fun u6 u7 dw dx jo pH ic=>
 bd (
 bk ch (
 some [.b true]) (
 bk (decide (By<0)) (
 some [.b true]) (
 bd (nZ (.agg [.i .i64 SF,.i .i64 ST])) fun rA=>
 gI .i64 rA fun x=>
 bk (decide (x≤By)) (
 some [.b true]) (
 bd (kZ (.agg [.i .i64 By,.i .i64 View,.s bJ])) fun aY=>
 gB aY fun x1=>
 some [.b (!x1)])))) fun vs=>
 gC vs fun Bi nj=>
 gB Bi fun x2=>
 gN nj<|
 bk x2 (
 some (.eF (.dr [.b false,.s ([]:List UInt8)]) (cj u6 u7 dw dx jo pH ic))) (
 bd (n6 (.agg [.list dx]) (.agg [.i .i64 By,.i .i64 View,.s bJ])) fun b7=>
 gT b7 fun jC=>
 gC jC fun FQ kH=>
 gA FQ fun nF=>
 gC nF fun Pl o7=>
 gL Pl fun L=>
 gN o7<|
 gC kH fun Pm o8=>
 gB Pm fun x3=>
 gN o8<|
 bd (mi (.agg [.list L]) (.i .i64 Ks)) fun cu=>
 gT cu fun qE=>
 Iq qE fun x4 x5 x6=>
 some (.eF (.dr [.b x6,.s x5]) (cj u6 u7 dw L jo pH ic)))
theorem sv (lA:MV) (t:List MV) (a:MV) (bM:MV):zn nt [] 1 G6 Tryz.f101 [lA,.cell (.func 3 t),a,bM]=eL lA t a bM:=by kernel_rfl
noncomputable def nu:Ctx:=IY qq [(1,1004001)] 54 [] [] [] [(1,[0,1,2,3,4,5,6,7,8,9,10,11,12,13,14,15,16,17,18,19]),(3,[0,1,2,3,4,5,6,7,8,9,10])] [(1,⟨[1,3,4,6,1004001],[],[],[(0,[(32,.sc (.k .b))])],[]⟩)] [] [] []
noncomputable def eM (lA:MV) (t:List MV) (a:MV) (bM:MV):Option MV:=
 gA lA fun cs=>
 fe cs fun SF ST eI eJ nK ch Value=>
 gA a fun fg=>
 kb fg fun By View bJ=>
 gI .i64 bM fun Ks=>
 fe t fun u6 u7 dw dx jo pH ic=>
 bd (
 bk ch (
 some [.b true]) (
 bk (decide (By<0)) (
 some [.b true]) (
 bd (nZ (.agg [.i .i64 SF,.i .i64 ST])) fun rA=>
 gI .i64 rA fun x=>
 bk (decide (x≤By)) (
 some [.b true]) (
 bd (kZ (.agg [.i .i64 By,.i .i64 View,.s bJ])) fun aY=>
 gB aY fun x1=>
 some [.b (!x1)])))) fun vs=>
 gC vs fun Bi nj=>
 gB Bi fun x2=>
 gN nj<|
 bk x2 (
 some (.eF (.dr [.b false,.s ([]:List UInt8)]) (cj u6 u7 dw dx jo pH ic))) (
 bd (n6 (.agg [.list jo]) (.agg [.i .i64 By,.i .i64 View,.s bJ])) fun b7=>
 gT b7 fun jC=>
 gC jC fun FQ kH=>
 gA FQ fun nF=>
 gC nF fun Pl o7=>
 gL Pl fun L=>
 gN o7<|
 gC kH fun Pm o8=>
 gB Pm fun x3=>
 gN o8<|
 bd (mi (.agg [.list L]) (.i .i64 Ks)) fun cu=>
 gT cu fun qE=>
 Iq qE fun x4 x5 x6=>
 some (.eF (.dr [.b x6,.s x5]) (cj u6 u7 dw dx L pH ic)))
theorem sw (lA:MV) (t:List MV) (a:MV) (bM:MV):zn nu [] 1 G6 Tryz.f101 [lA,.cell (.func 4 t),a,bM]=eM lA t a bM:=by kernel_rfl
noncomputable abbrev kL:List MV→Option MV:=fun ms=>match ms with|[a0,.cell (.func off a1),a2,a3]=>(match Nat.beq off 2 with|true=>eK a0 a1 a2 a3|false=>(match Nat.beq off 3 with|true=>eL a0 a1 a2 a3|false=>(match Nat.beq off 4 with|true=>eM a0 a1 a2 a3|false=>none)))|_=>none
theorem tg {ms:List MV} {r:MV} (h:kL ms=some r): ∃c':Ctx,xy cx c'∧c'.g=qq∧JV c' 101 Tryz.f101 []=true∧zn c' [] 1 G6 Tryz.f101 ms=some r:=by
 unfold kL at h
 split at h
 ·rename_i a0 off a1 a2 a3
  cases cm:Nat.beq off 2 with
  |true=>
   have:=Nat.eq_of_beq_eq_true cm
   subst this
   exact ⟨nr,⟨rfl,rfl,rfl,rfl,rfl,rfl,rfl,rfl,rfl⟩,rfl,by kernel_rfl,(su _ _ _ _).trans h⟩
  |false=>
  rw [cm] at h
  simp only at h
  cases Lq:Nat.beq off 3 with
  |true=>
   have:=Nat.eq_of_beq_eq_true Lq
   subst this
   exact ⟨nt,⟨rfl,rfl,rfl,rfl,rfl,rfl,rfl,rfl,rfl⟩,rfl,by kernel_rfl,(sv _ _ _ _).trans h⟩
  |false=>
  rw [Lq] at h
  simp only at h
  cases ho4:Nat.beq off 4 with
  |true=>
   have:=Nat.eq_of_beq_eq_true ho4
   subst this
   exact ⟨nu,⟨rfl,rfl,rfl,rfl,rfl,rfl,rfl,rfl,rfl⟩,rfl,by kernel_rfl,(sw _ _ _ _).trans h⟩
  |false=>
  rw [ho4] at h
  simp only at h
  cases h
 ·cases h
noncomputable def pf:GT:=bD 101 kL qq
theorem sB:SG pf:=
 F1.UO (pos:=1) (ks:=G6) (cG:=[]) nY G0 G4 Kj vX z7 Tryz.func101 (by kernel_rfl) (fun _=>rfl) tg
noncomputable def lh (lA a:MV):Option MV:=
 gA lA fun cs=>
 fe cs fun SF ST eI eJ nK ch Value=>
 gA a fun fg=>
 kb fg fun By View bJ=>
 bd (te (.agg [.i .i64 SF,.i .i64 ST])) fun rA=>
 gI .i64 rA fun x=>
 bd (eK (.agg (cj SF ST eI eJ nK ch Value)) (cj SF ST eI eJ nK ch Value) (.agg [.i .i64 By,.i .i64 View,.s bJ]) (.i .i64 x)) fun aY=>
 gW aY fun x1 ls=>
 fe ls fun u6 u7 dw dx jo pH ic=>
 gT x1 fun vs=>
 gC vs fun Bi nj=>
 gB Bi fun x2=>
 gC nj fun FQ kH=>
 gS FQ fun x3=>
 gN kH<|
 bd (
 bk x2 (
 some (0,(cj u6 u7 dw dx jo true x3))) (
 some (0,(cj u6 u7 dw dx jo pH ic)))) fun p=>
 cb (Nat.beq p.1 0)<|
 vY .i64 .i64 p.2 fun Hd lA2 lA3 lA4 lA5 lA6 lA7=>
 some (.agg (cj Hd lA2 lA3 lA4 lA5 lA6 lA7))
noncomputable def th:GT:=bD 45 (hM lh) pf
theorem wz:SG th:=zj sB [] [] 22 [] [] [] [(1,[0,1,2,3,4,5,6,7,8,9,10,11])] [] [(3,⟨[4,6],[],[],[(0,[(2,.box [.k (.i .i64),.k (.i .i64),.k .l,.k .l,.k .l,.k .b,.k .s])])],[]⟩)] [] [] Tryz.func45 (by kernel_rfl) (bU (fun _ _=>by kernel_rfl))
noncomputable def j6 (lA tx p:MV):Option MV:=
 gA lA fun cs=>
 fe cs fun SF ST eI eJ nK ch Value=>
 gI .i64 tx fun Mk=>
 gL p fun p1=>
 bd (mz (.agg [.i .i64 SF,.i .i64 ST]) (.list p1)) fun rA=>
 gB rA fun x=>
 bk (!x) (
 some (.agg (cj SF ST eI eJ nK ch Value))) (
 bd (qT (.list p1)) fun aY=>
 gT aY fun vs=>
 Iq vs fun x1 x2 x3=>
 bd (mg (.agg [.i .i64 SF,.i .i64 ST])) fun b7=>
 gI .i64 b7 fun x4=>
 bd (eL (.agg (cj SF ST eI eJ nK ch Value)) (cj SF ST eI eJ nK ch Value) (.agg [.i .i64 Mk,.i .i64 x1,.s x2]) (.i .i64 x4)) fun cu=>
 gW cu fun x5 ls=>
 fe ls fun u6 u7 dw dx jo pH bJ=>
 gT x5 fun jC=>
 gC jC fun Bi nj=>
 gB Bi fun x6=>
 gC nj fun FQ kH=>
 gS FQ fun x7=>
 gN kH<|
 bd (
 bk x6 (
 some (0,(cj u6 u7 dw dx jo true x7))) (
 some (0,(cj u6 u7 dw dx jo pH bJ)))) fun p2=>
 cb (Nat.beq p2.1 0)<|
 vY .i64 .i64 p2.2 fun Hd lA2 lA3 lA4 lA5 lA6 lA7=>
 some (.agg (cj Hd lA2 lA3 lA4 lA5 lA6 lA7)))
noncomputable def rV:GT:=bD 46 (yG j6) th
theorem ve:SG rV:=zj wz [] [] 42 [] [] [] [(4,[0,1,2,3,4,5,6,7,8,9,10,11,12,13,14])] [] [(6,⟨[6,11],[],[],[(0,[(3,.box [.k (.i .i64),.k (.i .i64),.k .l,.k .l,.k .l,.k .b,.k .s])])],[]⟩)] [] [] Tryz.func46 (by kernel_rfl) (kU (fun _ _ _=>by kernel_rfl))
noncomputable def lT (x tx:MV):Option MV:=
 gA x fun cs=>
 fm cs fun By mc Has View Value Proof=>
 gI .i64 tx fun Mk=>
 bd (kK (.i .i64 By) (.i .i64 Mk)) fun rA=>
 gI .i64 rA fun x1=>
 some (.i .i64 x1)
noncomputable def pw:GT:=bD 105 (hM lT) rV
theorem xB:SG pw:=pE ve [] 9 [] [] [] Tryz.func105 (by kernel_rfl) (bU (fun _ _=>by kernel_rfl))
noncomputable def cz:GT:=pw
theorem fU (x0 x1:MV):cz 105 [x0,x1]=lT x0 x1:=by kernel_rfl
noncomputable def cO (x target cmp:MV):Option MV:=
 gL x fun x1=>
 gI .i64 target fun Ap=>
 gR cmp fun SZ=>
 bQ x1 fun len=>
 bd (Loop (fun u5=>
 zi u5 fun i j=>
 bk (decide (i<j)) (
 cb (decide ((0:Int)≤1))<|
 idx x1 (IntKind.wrap .i64 (Int.fdiv (IntKind.wrap .u64 (IntKind.wrap .i64 (i+j))) (2^min (Int.toNat 1) (IntKind.bits .u64)))) fun y=>
 gA y fun cs=>
 fm cs fun By mc Has View Value Proof=>
 MQ SZ fun fn cap=>
 cb (!gv fn)<|
 bd (cz fn ([.agg (eC By mc Has View Value Proof),.i .i64 Ap]++cap)) fun rA=>
 gI .i64 rA fun x2=>
 bd (
 bk (decide (x2<0)) (
 some (0,[.i .i64 (IntKind.wrap .i64 ((IntKind.wrap .i64 (Int.fdiv (IntKind.wrap .u64 (IntKind.wrap .i64 (i+j))) (2^min (Int.toNat 1) (IntKind.bits .u64))))+1)),.i .i64 j])) (
 some (0,[.i .i64 i,.i .i64 (IntKind.wrap .i64 (Int.fdiv (IntKind.wrap .u64 (IntKind.wrap .i64 (i+j))) (2^min (Int.toNat 1) (IntKind.bits .u64))))]))) fun p1=>
 cb (Nat.beq p1.1 0)<|
 Wn .i64 .i64 p1.2 fun i1 j1=>
 some (.inl [.i .i64 i1,.i .i64 j1])) (
 some (.inr (2,[.i .i64 i])))) [.i .i64 0,.i .i64 (len:Int)]) fun p=>
 cb (Nat.beq p.1 2)<|
 gC p.2 fun Kf s4=>
 gI .i64 Kf fun i2=>
 gN s4<|
 bd (
 bk (decide (i2<(len:Int))) (
 idx x1 i2 fun y1=>
 gA y1 fun fg=>
 fm fg fun Iw Pn Aj eh bJ mh=>
 MQ SZ fun xn pe=>
 cb (!gv xn)<|
 bd (cz xn ([.agg (eC Iw Pn Aj eh bJ mh),.i .i64 Ap]++pe)) fun aY=>
 gI .i64 aY fun x3=>
 some [.i .i64 i2,.b (decide (x3=0))]) (
 some [.i .i64 i2,.b false])) fun vs=>
 gC vs fun Bi kH=>
 gI .i64 Bi fun x4=>
 gC kH fun FQ o7=>
 gB FQ fun x5=>
 gN o7<|
 some (.dr [.i .i64 x4,.b x5])
noncomputable def fN:GT:=bD 104 (yG cO) pw
theorem kf:SG fN:=pE xB [] 49 [(8,⟨[0,1,2,8,9],[],[],[(0,[(6,.sc (.k (.i .i64))),(7,.sc (.k .b))])],[]⟩)] [(6,⟨[0,1,2,8,11],[],[],[(0,[(9,.sc (.k (.i .i64))),(10,.sc (.k (.i .i64)))])],[]⟩)] [(3,⟨[0,1,2,8],[],[(9,.sc (.k (.i .i64))),(10,.sc (.k (.i .i64)))],[(2,[(9,.sc (.k (.i .i64)))])],[]⟩)] Tryz.func104 (by kernel_rfl) (kU (fun _ _ _=>by kernel_rfl))
noncomputable def oK (n:List MV) (sA:MV) (i:MV) (rA:MV):Option MV:=
 gA sA fun cs=>
 zi cs fun F T=>
 gI .i64 i fun i1=>
 gA rA fun fg=>
 fm fg fun By mc Has View Value Proof=>
 aT n fun wc we wg dB kI wh dj dk ck wi wj bE bw dm ew dp iX mE=>
 bd (cO (.list iX) (.i .i64 By) (.func 105 [])) fun aY=>
 gT aY fun vs=>
 gC vs fun Yc SY=>
 gI .i64 Yc fun x=>
 gC SY fun m27 Er=>
 gB m27 fun x1=>
 gN Er<|
 bd (
 bk (!x1) (
 bk (decide (dB=mc)) (
 bd (mB (.agg [.i .i64 F,.i .i64 T]) (.i .i64 mc)) fun b7=>
 gI .i64 b7 fun x2=>
 bk (decide (x2=i1)) (
 bd (qW (.agg [.i .i64 F,.i .i64 T]) (.agg (eC By mc Has View Value Proof))) fun cu=>
 gB cu fun x3=>
 some [.b x3]) (
 some [.b false])) (
 some [.b false])) (
 some [.b false])) fun jC=>
 gC jC fun m28 Es=>
 gB m28 fun x4=>
 gN Es<|
 bd (
 bk x4 (
 both (
 bd (gZ 6 72 [.list iX]) fun fB=>
 gF fB fun xs=>
 bd (mP 72 [.fresh xs,.i .i64 x,.fresh ([.agg (eC By mc Has View Value Proof)]:List MV)]) fun kC=>
 gF kC fun Ey=>
 some (0,(aq wc we wg dB kI wh dj dk ck wi wj bE bw dm ew dp Ey mE))) (
 bd (gZ 6 72 [.list iX]) fun pD=>
 gF pD fun Ac=>
 bd (mP 72 [.fresh Ac,.i .i64 x,.fresh ([.agg (eC By mc Has View Value Proof)]:List MV)]) fun vP=>
 gF vP fun NQ=>
 some (0,(aq wc we wg dB kI wh dj dk ck wi wj bE bw dm ew dp NQ mE)))) (
 some (0,(aq wc we wg dB kI wh dj dk ck wi wj bE bw dm ew dp iX mE)))) fun p=>
 cb (Nat.beq p.1 0)<|
 ek .i64 .i64 .i64 .i64 .i64 .i64 .i64 .i64 p.2 fun x5 x6 x7 x8 x9 pu pZ qN qp rO uZ xZ uQ FR PW NR PX NS=>
 some (.eF (.dr []) (aq x5 x6 x7 x8 x9 pu pZ qN qp rO uZ xZ uQ FR PW NR PX NS))
noncomputable def yh:GT:=bD 47 (cl4 oK) fN
theorem Ar:SG yh:=UO kf 0 Wo [] [(0,1000000)] 57 [54] [] [] [(1,[0,1,2,3,4,5,6,7,8,9,10,11]),(2,[0,1,2,3,4,5,6,7,8,9,10,11,12,13,14,15,17,16,18,19,20,21,22,23,24]),(3,[0,1,2,3,4,6,7,5,8,9,10,11,12,0,1,2,3,4,6,7,8,5,9,10,11,12,5,8])] [(2,⟨[0,2,5,7,8,9,1000000],[],[],[(0,[(44,.sc (.k .b))])],[50,53]⟩)] [(3,⟨[0,7,8],[],[],[(0,[(1000000,.box [.k (.i .i64),.k (.i .i64),.k (.i .i64),.k (.i .i64),.k .b,.k (.i .i64),.k .s,.k .l,.k .l,.k (.i .i64),.k (.i .i64),.k .l,.k .l,.k .l,.k .b,.k .s,.k .l,.k (.i .i64)])])],[50,53]⟩)] [] [] Tryz.func47 (by kernel_rfl) (by kernel_rfl) (Su fun _ _ _ _=>by kernel_rfl)
noncomputable def xp (sA:MV):Option MV:=
 gA sA fun cs=>
 zi cs fun F T=>
 bd (gM (.agg [.i .i64 F,.i .i64 T]) (.raw (.complex .f64 4607182418800017408 0))) fun rA=>
 gI .i64 rA fun x=>
 some (.i .i64 x)
noncomputable def Hg:GT:=bD 109 (oV xp) yh
theorem F3:SG Hg:=pE Ar [] 5 [] [] [] Tryz.func109 (by kernel_rfl) (dY (fun _=>by kernel_rfl))
noncomputable def qf (lA tx value:MV):Option MV:=
 gA lA fun cs=>
 fe cs fun SF ST eI eJ nK ch Value=>
 gI .i64 tx fun Mk=>
 gS value fun n4=>
 bd (xp (.agg [.i .i64 SF,.i .i64 ST])) fun rA=>
 gI .i64 rA fun x=>
 bd (eM (.agg (cj SF ST eI eJ nK ch Value)) (cj SF ST eI eJ nK ch Value) (.agg [.i .i64 Mk,.i .i64 0,.s n4]) (.i .i64 x)) fun aY=>
 gW aY fun x1 ls=>
 fe ls fun u6 u7 dw dx jo pH bJ=>
 gT x1 fun vs=>
 gC vs fun Ip s5=>
 gB Ip fun x2=>
 gC s5 fun Pe s6=>
 gS Pe fun x3=>
 gN s6<|
 bd (
 bk x2 (
 some (0,(cj u6 u7 dw dx jo true x3))) (
 some (0,(cj u6 u7 dw dx jo pH bJ)))) fun p=>
 cb (Nat.beq p.1 0)<|
 vY .i64 .i64 p.2 fun Hd lA2 lA3 lA4 lA5 lA6 lA7=>
 some (.agg (cj Hd lA2 lA3 lA4 lA5 lA6 lA7))
noncomputable def As:GT:=bD 48 (yG qf) Hg
theorem Bt:SG As:=zj F3 [] [] 26 [] [] [] [(1,[0,1,2,3,4,5,6,7,8,9,10,11,12,13])] [] [(3,⟨[6,8],[],[],[(0,[(3,.box [.k (.i .i64),.k (.i .i64),.k .l,.k .l,.k .l,.k .b,.k .s])])],[]⟩)] [] [] Tryz.func48 (by kernel_rfl) (kU (fun _ _ _=>by kernel_rfl))
noncomputable def uw (a a1 a2 a3:MV):Option MV:=
 gA a fun cs=>
 zi cs fun F T=>
 gI .i64 a1 fun jm=>
 gA a2 fun fg=>
 aT fg fun wc we wg dB kI wh dj dk ck wi wj bE bw dm ew dp iX mE=>
 gA a3 fun nF=>
 cf nF fun Kind gh View Value fE fH dq cE Proof EM rc rf lm gm fT=>
 bd (
 bk (decide (Kind=1)) (
 bd (mB (.agg [.i .i64 F,.i .i64 T]) (.i .i64 View)) fun rA=>
 gI .i64 rA fun x=>
 bk (!decide (gh=x)) (
 some (2,(di wc we wg dB kI wh dj dk ck wi wj bE bw dm ew dp iX mE ([]:List MV)))) (
 bd (lg (.agg (cq wc we wg dB kI wh dj dk ck)) (.i .i64 View) (.s Value) (.list fE)) fun aY=>
 gT aY fun vs=>
 gC vs fun m35 acq=>
 gA m35 fun tw=>
 fA tw fun SF ST Me eh Has At bJ mh fS=>
 gC acq fun m45 SH=>
 gA m45 fun cs4=>
 kb cs4 fun By Cd ic=>
 gC SH fun m49 acs=>
 gB m49 fun x1=>
 gN acs<|
 bd (
 bk x1 (
 bQ ([.agg (aC 2 0 0 ([]:List UInt8) ([]:List MV) By Cd ic ([]:List MV) 0 0 false 0 ([]:List UInt8) ([]:List MV))]:List MV) fun len=>
 cb (decide (len *192≤2^46))<|
 some (0,[.list ([.agg (aC 2 0 0 ([]:List UInt8) ([]:List MV) By Cd ic ([]:List MV) 0 0 false 0 ([]:List UInt8) ([]:List MV))]:List MV)])) (
 some (0,[.list ([]:List MV)]))) fun p1=>
 cb (Nat.beq p1.1 0)<|
 gC p1.2 fun m50 acu=>
 gL m50 fun xs=>
 gN acu<|
 some (0,(di SF ST Me eh Has At bJ mh fS wi wj bE bw dm ew dp iX mE xs)))) (
 bd (
 bk (decide (Kind=2)) (
 bd (oJ (.agg (cq wc we wg dB kI wh dj dk ck)) (.agg [.i .i64 fH,.i .i64 dq,.s cE])) fun b7=>
 gT b7 fun jC=>
 gC jC fun m51 acv=>
 gA m51 fun cs5=>
 fA cs5 fun u6 u7 Me1 acx Aj At1 Yg Yh Vj=>
 gC acv fun m61 acy=>
 gL m61 fun x2=>
 gC acy fun m62 acz=>
 gB m62 fun x3=>
 gN acz<|
 bd (
 bk x3 (
 bQ ([.agg (aC 3 jm 0 ([]:List UInt8) ([]:List MV) 0 0 ([]:List UInt8) x2 0 0 false 0 ([]:List UInt8) ([]:List MV))]:List MV) fun eR=>
 cb (decide (eR *192≤2^46))<|
 some (0,[.list ([.agg (aC 3 jm 0 ([]:List UInt8) ([]:List MV) 0 0 ([]:List UInt8) x2 0 0 false 0 ([]:List UInt8) ([]:List MV))]:List MV)])) (
 some (0,[.list ([]:List MV)]))) fun p3=>
 cb (Nat.beq p3.1 0)<|
 gC p3.2 fun m63 S0=>
 gL m63 fun Ey=>
 gN S0<|
 bd (lh (.agg (cj wi wj bE bw dm ew dp)) (.agg [.i .i64 fH,.i .i64 dq,.s cE])) fun cu=>
 gA cu fun cs6=>
 fe cs6 fun Yi Yj eI eJ nK ch Yk=>
 some (0,(di u6 u7 Me1 acx Aj At1 Yg Yh Vj Yi Yj eI eJ nK ch Yk iX mE Ey))) (
 bd (
 bk (decide (Kind=3)) (
 bd (j6 (.agg (cj wi wj bE bw dm ew dp)) (.i .i64 gh) (.list Proof)) fun fB=>
 gA fB fun cs7=>
 fe cs7 fun Yl Ym dw dx jo pH Yn=>
 some (0,(aq wc we wg dB kI wh dj dk ck Yl Ym dw dx jo pH Yn iX mE))) (
 bd (
 bk (decide (Kind=4)) (
 bd (oK (aq wc we wg dB kI wh dj dk ck wi wj bE bw dm ew dp iX mE) (.agg [.i .i64 F,.i .i64 T]) (.i .i64 jm) (.agg (eC EM rc rf lm gm fT))) fun kC=>
 gW kC fun x4 ls=>
 aT ls fun EZ E0 E1 qX wA E3 nv nw kM E4 E5 fV fW ny qY lU E6 E7=>
 some (0,(aq EZ E0 E1 qX wA E3 nv nw kM E4 E5 fV fW ny qY lU E6 E7))) (
 bd (
 bk (decide (Kind=5)) (
 bd (qf (.agg (cj wi wj bE bw dm ew dp)) (.i .i64 gh) (.s Value)) fun pD=>
 gA pD fun cs8=>
 fe cs8 fun SF4 ST4 Po Pp Yo acD Yp=>
 some (0,(aq wc we wg dB kI wh dj dk ck SF4 ST4 Po Pp Yo acD Yp iX mE))) (
 some (0,(aq wc we wg dB kI wh dj dk ck wi wj bE bw dm ew dp iX mE)))) fun p6=>
 cb (Nat.beq p6.1 0)<|
 ek .i64 .i64 .i64 .i64 .i64 .i64 .i64 .i64 p6.2 fun x5 x6 x7 x8 x9 pu pZ qN qp rO uZ xZ uQ FR PW NR PX NS=>
 some (0,(aq x5 x6 x7 x8 x9 pu pZ qN qp rO uZ xZ uQ FR PW NR PX NS)))) fun p5=>
 cb (Nat.beq p5.1 0)<|
 ek .i64 .i64 .i64 .i64 .i64 .i64 .i64 .i64 p5.2 fun TE TF SI SJ SK SL SM SN SO SP SQ Vh Zx Zy Zz x38 x39 ZA=>
 some (0,(aq TE TF SI SJ SK SL SM SN SO SP SQ Vh Zx Zy Zz x38 x39 ZA)))) fun p4=>
 cb (Nat.beq p4.1 0)<|
 ek .i64 .i64 .i64 .i64 .i64 .i64 .i64 .i64 p4.2 fun ZB x42 x43 x44 x45 x46 x47 x48 x49 x50 x51 x52 x53 x54 x55 x56 x57 ZC=>
 some (0,(di ZB x42 x43 x44 x45 x46 x47 x48 x49 x50 x51 x52 x53 x54 x55 x56 x57 ZC ([]:List MV))))) fun p2=>
 cb (Nat.beq p2.1 0)<|
 gG .i64 .i64 .i64 .i64 .i64 .i64 .i64 .i64 p2.2 fun x59 x60 x61 x62 x63 x64 x65 x66 x67 x68 x69 x70 x71 x72 x73 x74 x75 x76 Ac=>
 some (0,(di x59 x60 x61 x62 x63 x64 x65 x66 x67 x68 x69 x70 x71 x72 x73 x74 x75 x76 Ac)))) fun p=>
 bk (Nat.beq p.1 2) (
 gG .i64 .i64 .i64 .i64 .i64 .i64 .i64 .i64 p.2 fun x77 x78 x79 x80 x81 x82 x83 x84 x85 x86 x87 x88 x89 x90 x91 x92 x93 x94 NQ=>
 bd (
 bk x91 (
 some [.b (!ew)]) (
 some [.b false])) fun qE=>
 gC qE fun ag8 Yq=>
 gB ag8 fun x95=>
 gN Yq<|
 bd (
 bk x95 (
 bQ NQ fun nG=>
 bQ ([.agg (aC 5 jm 0 x92 ([]:List MV) 0 0 ([]:List UInt8) ([]:List MV) 0 0 false 0 ([]:List UInt8) ([]:List MV))]:List MV) fun v8=>
 cb (decide ((nG+v8) *192≤2^46))<|
 some (0,[.list (NQ++([.agg (aC 5 jm 0 x92 ([]:List MV) 0 0 ([]:List UInt8) ([]:List MV) 0 0 false 0 ([]:List UInt8) ([]:List MV))]:List MV))])) (
 some (0,[.list NQ]))) fun p9=>
 cb (Nat.beq p9.1 0)<|
 gC p9.2 fun ag9 Yr=>
 gL ag9 fun SE=>
 gN Yr<|
 some (.dr [.agg (aq x77 x78 x79 x80 x81 x82 x83 x84 x85 x86 x87 x88 x89 x90 x91 x92 x93 x94),.list SE])) (
 cb (Nat.beq p.1 0)<|
 gG .i64 .i64 .i64 .i64 .i64 .i64 .i64 .i64 p.2 fun x96 x97 x98 x99 aha ahb ahc ahd ahe ahf ahg ahh ahi ahj acF Ys ahk ahl Vg=>
 bd (
 bk acF (
 some [.b (!ew)]) (
 some [.b false])) fun SU=>
 gC SU fun ahm Yt=>
 gB ahm fun ahn=>
 gN Yt<|
 bd (
 bk ahn (
 bQ Vg fun Bk=>
 bQ ([.agg (aC 5 jm 0 Ys ([]:List MV) 0 0 ([]:List UInt8) ([]:List MV) 0 0 false 0 ([]:List UInt8) ([]:List MV))]:List MV) fun yU=>
 cb (decide ((Bk+yU) *192≤2^46))<|
 some (0,[.list (Vg++([.agg (aC 5 jm 0 Ys ([]:List MV) 0 0 ([]:List UInt8) ([]:List MV) 0 0 false 0 ([]:List UInt8) ([]:List MV))]:List MV))])) (
 some (0,[.list Vg]))) fun Yu=>
 cb (Nat.beq Yu.1 0)<|
 gC Yu.2 fun aho Yv=>
 gL aho fun xs6=>
 gN Yv<|
 some (.dr [.agg (aq x96 x97 x98 x99 aha ahb ahc ahd ahe ahf ahg ahh ahi ahj acF Ys ahk ahl),.list xs6]))
noncomputable def E8:GT:=bD 15 (L8 uw) As
theorem E9:SG E8:=zj Bt [] [] 118 [47,66,114] [] [] [(5,[0,1,2,3,4,5,6])] [(22,⟨[1,6,8,10,12],[48,67],[],[(0,[(107,.sc (.k .b))])],[48,67]⟩)] [(23,⟨[1,6,8],[],[],[(0,[(12,.sc (.own 48 62 true))])],[48,67]⟩),(9,⟨[1,6,8,10,13],[],[],[(0,[(12,.sc (.own 48 62 true))])],[48,67]⟩),(14,⟨[1,6,7,8,10,14],[],[],[(0,[(12,.sc (.own 67 62 true))])],[48,67]⟩),(21,⟨[1,7,8,10,12],[],[],[(0,[(6,.box [.k (.i .i64),.k (.i .i64),.k (.i .i64),.k (.i .i64),.k .b,.k (.i .i64),.k .s,.k .l,.k .l,.k (.i .i64),.k (.i .i64),.k .l,.k .l,.k .l,.k .b,.k .s,.k .l,.k (.i .i64)])])],[48,67]⟩),(19,⟨[1,4,7,8,10,12,19],[],[],[(0,[(6,.box [.k (.i .i64),.k (.i .i64),.k (.i .i64),.k (.i .i64),.k .b,.k (.i .i64),.k .s,.k .l,.k .l,.k (.i .i64),.k (.i .i64),.k .l,.k .l,.k .l,.k .b,.k .s,.k .l,.k (.i .i64)])])],[48,67]⟩),(17,⟨[1,4,7,8,10,12,19],[],[],[(0,[(6,.box [.k (.i .i64),.k (.i .i64),.k (.i .i64),.k (.i .i64),.k .b,.k (.i .i64),.k .s,.k .l,.k .l,.k (.i .i64),.k (.i .i64),.k .l,.k .l,.k .l,.k .b,.k .s,.k .l,.k (.i .i64)])])],[48,67]⟩),(11,⟨[1,4,7,8,10,19],[],[],[(0,[(6,.box [.k (.i .i64),.k (.i .i64),.k (.i .i64),.k (.i .i64),.k .b,.k (.i .i64),.k .s,.k .l,.k .l,.k (.i .i64),.k (.i .i64),.k .l,.k .l,.k .l,.k .b,.k .s,.k .l,.k (.i .i64)]),(12,.sc (.own 67 62 true))])],[48,67]⟩),(5,⟨[1,4,7,8,10,19],[],[],[(0,[(6,.box [.k (.i .i64),.k (.i .i64),.k (.i .i64),.k (.i .i64),.k .b,.k (.i .i64),.k .s,.k .l,.k .l,.k (.i .i64),.k (.i .i64),.k .l,.k .l,.k .l,.k .b,.k .s,.k .l,.k (.i .i64)]),(12,.sc (.own 48 62 true))]),(2,[(6,.box [.k (.i .i64),.k (.i .i64),.k (.i .i64),.k (.i .i64),.k .b,.k (.i .i64),.k .s,.k .l,.k .l,.k (.i .i64),.k (.i .i64),.k .l,.k .l,.k .l,.k .b,.k .s,.k .l,.k (.i .i64)]),(12,.sc (.own 48 62 true))])],[48,67]⟩)] [] [] Tryz.func15 (by kernel_rfl) (zX (fun _ _ _ _=>by kernel_rfl))
noncomputable def oL (a:MV):Option MV:=
 gA a fun cs=>
 fA cs fun SF ST Me View Has At Value Proof fS=>
 some (.agg (eC Me View Has At Value Proof))
noncomputable def yi:GT:=bD 121 (oV oL) E8
theorem Au:SG yi:=pE E9 [] 16 [] [] [] Tryz.func121 (by kernel_rfl) (dY (fun _=>by kernel_rfl))
noncomputable def nz (a view:MV):Option MV:=
 gA a fun cs=>
 fA cs fun SF ST Me View Has At Value Proof fS=>
 gI .i64 view fun jz=>
 bd (
 bk (decide (jz≤View)) (
 some [.b true]) (
 some [.b (decide ((100000:Int)<jz))])) fun vs=>
 gC vs fun m9 pv=>
 gB m9 fun x=>
 gN pv<|
 bk x (
 some (.dr [.agg (cq SF ST Me View Has At Value Proof fS),.agg (eC 0 0 false 0 ([]:List UInt8) ([]:List MV)),.b false])) (
 bd (oL (.agg (cq SF ST Me jz Has At Value Proof ([]:List MV)))) fun rA=>
 gA rA fun fg=>
 fm fg fun By mc Aj eh bJ mh=>
 some (.dr [.agg (cq SF ST Me jz Has At Value Proof ([]:List MV)),.agg (eC By mc Aj eh bJ mh),.b true]))
noncomputable def wB:GT:=bD 56 (hM nz) yi
theorem yY:SG wB:=zj Au [] [] 24 [] [] [] [(4,[0,1,2,3,4,5])] [(1,⟨[1,2,4,5],[],[],[(0,[(14,.sc (.k .b))])],[]⟩)] [] [] [] Tryz.func56 (by kernel_rfl) (bU (fun _ _=>by kernel_rfl))
noncomputable def rW (x_ x_1 n view:MV):Option MV:=
 gA x_ fun cs=>
 zi cs fun F T=>
 gI .i64 x_1 fun ajp=>
 gA n fun fg=>
 aT fg fun wc we wg dB kI wh dj dk ck wi wj bE bw dm ew dp iX mE=>
 gI .i64 view fun jz=>
 bd (nz (.agg (cq wc we wg dB kI wh dj dk ck)) (.i .i64 jz)) fun rA=>
 gT rA fun vs=>
 gC vs fun Pm o8=>
 gA Pm fun nF=>
 fA nF fun SF ST Me View Has At Value Proof fS=>
 gC o8 fun Yf EJ=>
 gA Yf fun tw=>
 fm tw fun By mc Aj eh bJ mh=>
 gC EJ fun m37 SB=>
 gB m37 fun x=>
 gN SB<|
 bk (!x) (
 some (.dr [.agg (aq wc we wg dB kI wh dj dk ck wi wj bE bw dm ew dp iX mE),.list ([]:List MV)])) (
 both (
 some (.dr [.agg (aq SF ST Me View Has At Value Proof fS wi wj bE bw dm ew dp ([]:List MV) mE),.list ([.agg (aC 4 0 0 ([]:List UInt8) ([]:List MV) 0 0 ([]:List UInt8) ([]:List MV) By mc Aj eh bJ mh)]:List MV)])) (
 some (.dr [.agg (aq SF ST Me View Has At Value Proof fS wi wj bE bw dm ew dp ([]:List MV) mE),.list ([.agg (aC 4 0 0 ([]:List UInt8) ([]:List MV) 0 0 ([]:List UInt8) ([]:List MV) By mc Aj eh bJ mh)]:List MV)])))
noncomputable def Ck:GT:=bD 18 (L8 rW) wB
theorem CK:SG Ck:=zj yY [] [] 31 [30] [28] [(2,[11])] [(5,[0,1,2,3,4,5,0,1,2,4,3,5,3,4])] [] [] [] [] Tryz.func18 (by kernel_rfl) (zX (fun _ _ _ _=>by kernel_rfl))
noncomputable def ux (a a1 a2 a3:MV):Option MV:=
 gA a fun cs=>
 zi cs fun F T=>
 gI .i64 a1 fun jm=>
 gA a2 fun fg=>
 aT fg fun wc we wg dB kI wh dj dk ck wi wj bE bw dm ew dp iX mE=>
 gS a3 fun acG=>
 bd (tc (.agg [.i .i64 F,.i .i64 T])) fun rA=>
 gI .i64 rA fun x=>
 bd (
 bd (mB (.agg [.i .i64 F,.i .i64 T]) (.i .i64 dB)) fun aY=>
 gI .i64 aY fun x1=>
 bk (!decide (x1=jm)) (
 some [.b true]) (
 some [.b (decide (dB≤mE))])) fun vs=>
 gC vs fun Pm o8=>
 gB Pm fun x2=>
 gN o8<|
 bk x2 (
 some (.dr [.agg (aq wc we wg dB kI wh dj dk ck wi wj bE bw dm ew dp iX mE),.list ([]:List MV)])) (
 bd (
 bk (decide ((0:Int)<dB)) (
 bQ iX fun len=>
 some [.b (decide ((len:Int)<x))]) (
 some [.b false])) fun jC=>
 gC jC fun m21 Ab=>
 gB m21 fun x3=>
 gN Ab<|
 bk x3 (
 some (.dr [.agg (aq wc we wg dB kI wh dj dk ck wi wj bE bw dm ew dp iX mE),.list ([]:List MV)])) (
 bd (
 bk (decide ((0:Int)<dB)) (
 bQ iX fun eR=>
 cb (decide ((0:Int)≤0∧(0:Int)≤x∧x≤(eR:Int)))<|
 bd (gZ 6 72 [.list (List.drop (Int.toNat 0) (List.take (Int.toNat x) iX))]) fun b7=>
 gF b7 fun xs=>
 bd (nn (.agg [.i .i64 F,.i .i64 T]) (.list xs)) fun cu=>
 gT cu fun qE=>
 gC qE fun m22 SW=>
 gS m22 fun x4=>
 gC SW fun m23 Kp=>
 gB m23 fun x5=>
 gN Kp<|
 bd (
 bk x5 (
 some (0,(aC 1 jm dB x4 xs 0 0 ([]:List UInt8) ([]:List MV) 0 0 false 0 ([]:List UInt8) ([]:List MV)))) (
 some (0,(aC 1 jm dB acG xs 0 0 ([]:List UInt8) ([]:List MV) 0 0 false 0 ([]:List UInt8) ([]:List MV))))) fun p1=>
 cb (Nat.beq p1.1 0)<|
 kY .i64 .i64 .i64 .i64 .i64 .i64 .i64 .i64 p1.2 fun x6 x7 x8 x9 Ey pu pZ qN qp rO uZ xZ uQ FR PW=>
 some (0,(aC x6 x7 x8 x9 Ey pu pZ qN qp rO uZ xZ uQ FR PW))) (
 some (0,(aC 1 jm dB acG ([]:List MV) 0 0 ([]:List UInt8) ([]:List MV) 0 0 false 0 ([]:List UInt8) ([]:List MV))))) fun p=>
 cb (Nat.beq p.1 0)<|
 kY .i64 .i64 .i64 .i64 .i64 .i64 .i64 .i64 p.2 fun NR PX NS TE Ac TF SI SJ SK SL SM SN SO SP SQ=>
 both (
 some (.dr [.agg (aq wc we wg dB kI wh dj dk ck wi wj bE bw dm ew dp iX NS),.list ([.agg (aC NR PX NS TE Ac TF SI SJ SK SL SM SN SO SP SQ)]:List MV)])) (
 some (.dr [.agg (aq wc we wg dB kI wh dj dk ck wi wj bE bw dm ew dp iX NS),.list ([.agg (aC NR PX NS TE Ac TF SI SJ SK SL SM SN SO SP SQ)]:List MV)]))))
noncomputable def Fa:GT:=bD 20 (L8 ux) Ck
theorem Fb:SG Fa:=zj CK [] [] 75 [74] [73] [(12,[11])] [(13,[0,1,2,3,4,0,1,3,2,4,2,3])] [(5,⟨[4,6,8,10,11],[],[],[(0,[(37,.sc (.k .b))])],[57]⟩),(3,⟨[1,4,6,8,10,11],[],[],[(0,[(22,.sc (.k .b))])],[57]⟩)] [(11,⟨[6,8,12],[],[],[(0,[(11,.box [.k (.i .i64),.k (.i .i64),.k (.i .i64),.k .s,.own 57 60 true,.k (.i .i64),.k (.i .i64),.k .s,.k .l,.k (.i .i64),.k (.i .i64),.k .b,.k (.i .i64),.k .s,.k .l])])],[57]⟩),(8,⟨[4,6,8,10],[],[],[(0,[(11,.box [.k (.i .i64),.k (.i .i64),.k (.i .i64),.k .s,.own 57 60 true,.k (.i .i64),.k (.i .i64),.k .s,.k .l,.k (.i .i64),.k (.i .i64),.k .b,.k (.i .i64),.k .s,.k .l])])],[57]⟩)] [] [] Tryz.func20 (by kernel_rfl) (zX (fun _ _ _ _=>by kernel_rfl))
noncomputable def li (c i:MV):Option MV:=
 gA c fun cs=>
 cw cs fun SF ST cV Want N bF=>
 gI .i64 i fun i1=>
 bd (
 bd (ey (.agg (aR SF ST cV Want N bF)) (.i .i64 i1) (.b false)) fun rA=>
 gB rA fun x=>
 bk (!x) (
 some [.b true]) (
 idx N i1 fun y=>
 gA y fun fg=>
 aT fg fun wc we wg dB kI wh dj dk ck wi wj bE bw dm ew dp iX mE=>
 some [.b (!ew)])) fun vs=>
 gC vs fun Vi EU=>
 gB Vi fun x1=>
 gN EU<|
 bk x1 (
 some (.dr [.s ([]:List UInt8),.b false])) (
 idx N i1 fun y1=>
 gA y1 fun nF=>
 aT nF fun EZ E0 E1 qX wA E3 nv nw kM E4 E5 fV fW ny qY lU E6 E7=>
 some (.dr [.s lU,.b true]))
noncomputable def Av:GT:=bD 30 (hM li) Fa
theorem Bu:SG Av:=pE Fb [] 27 [(1,⟨[1,2],[],[],[(0,[(19,.sc (.k .b))])],[]⟩)] [] [] Tryz.func30 (by kernel_rfl) (bU (fun _ _=>by kernel_rfl))
noncomputable def gW2:GT:=UP 72 Av
theorem S1:cR Tryz.prog NP gW2:=Bu.alt Sq
noncomputable def nA (c:List MV) (lA:MV):Option MV:=
 gL lA fun Hd=>
 cw c fun SF ST cV Want N bF=>
 bQ Hd fun len=>
 bd (Loop (fun Ep=>
 gC Ep fun m6 wa=>
 gI .i64 m6 fun x=>
 cw wa fun x1 x2 x3 x4 xs x5=>
 bk (decide (x<(len:Int))) (
 idx Hd x fun y=>
 gA y fun cs=>
 cf cs fun Kind gh View Value fE fH dq cE Proof EM rc rf lm gm fT=>
 bQ x5 fun eR=>
 bd (
 bk (decide ((eR:Int)<400)) (
 both (
 bd (dN (.list x5)) fun rA=>
 Tr rA fun Ey=>
 cb (mF 15 Ey)<|
 bQ Ey fun nG=>
 bQ ([.agg (aC Kind gh View Value fE fH dq cE Proof EM rc rf lm gm fT)]:List MV) fun v8=>
 cb (decide (0<v8∧(nG+v8) *192≤2^46))<|
 some (0,(aR x1 x2 x3 x4 xs (Ey++([.agg (aC Kind gh View Value fE fH dq cE Proof EM rc rf lm gm fT)]:List MV))))) (
 bd (dN (.list x5)) fun aY=>
 Tr aY fun Ac=>
 cb (mF 15 Ac)<|
 bQ Ac fun Bk=>
 bQ ([.agg (aC Kind gh View Value fE fH dq cE Proof EM rc rf lm gm fT)]:List MV) fun yU=>
 cb (decide (0<yU∧(Bk+yU) *192≤2^46))<|
 some (0,(aR x1 x2 x3 x4 xs (Ac++([.agg (aC Kind gh View Value fE fH dq cE Proof EM rc rf lm gm fT)]:List MV)))))) (
 some (0,(aR x1 x2 x3 x4 xs x5)))) fun p1=>
 cb (Nat.beq p1.1 0)<|
 gJ .i64 .i64 p1.2 fun x6 x7 x8 x9 NQ pu=>
 some (.inl [.i .i64 (IntKind.wrap .i64 (x+1)),.i .i64 x6,.i .i64 x7,.list x8,.list x9,.list NQ,.list pu])) (
 some (.inr (2,(aR x1 x2 x3 x4 xs x5))))) [.i .i64 0,.i .i64 SF,.i .i64 ST,.list cV,.list Want,.list N,.list bF]) fun p=>
 cb (Nat.beq p.1 2)<|
 gJ .i64 .i64 p.2 fun pZ qN qp rO SE uZ=>
 some (.eF (.dr []) (aR pZ qN qp rO SE uZ))
noncomputable def wC:GT:=bD 72 (cl2 nA) gW2
theorem yZ:cR Tryz.prog NP wC:=Sr S1 0 Wq [] [(0,1000000)] 30 [25,26] [] [] [(4,[0,1,2,3,4,6,5,7,8,9,10,11,0,1,2,3,4,6,7,5,8,9,10,11,5,7])] [] [(4,⟨[0,5,6,7,8],[],[],[(0,[(1000000,.box [.k (.i .i64),.k (.i .i64),.k .l,.k .l,.own 2000004 40 false,.k .l])])],[]⟩)] [(1,⟨[0,6,7],[],[(8,.sc (.k (.i .i64))),(1000000,.box [.k (.i .i64),.k (.i .i64),.k .l,.k .l,.own 2000004 40 false,.k .l])],[(2,[(1000000,.box [.k (.i .i64),.k (.i .i64),.k .l,.k .l,.own 2000004 40 false,.k .l])])],[]⟩)] [] Tryz.func72 (by kernel_rfl) (by kernel_rfl) (Mf fun _ _=>by kernel_rfl)
noncomputable def jF (c:List MV) (i:MV) (n:MV) (said:MV):Option MV:=
 gI .i64 i fun i1=>
 gA n fun cs=>
 aT cs fun wc we wg dB kI wh dj dk ck wi wj bE bw dm ew dp iX mE=>
 gL said fun acH=>
 cw c fun SF ST cV Want N bF=>
 idx N i1 fun y=>
 gA y fun fg=>
 aT fg fun EZ E0 E1 qX wA E3 nv nw kM E4 E5 fV fW ny qY lU E6 E7=>
 bd (nA (aR SF ST cV Want (N.set (Int.toNat i1) (.agg (aq wc we wg dB kI wh dj dk ck wi wj bE bw dm ew dp iX mE))) bF) (.list acH)) fun rA=>
 gW rA fun x ls=>
 cw ls fun u6 u7 Bv tj N1 tk=>
 some (.eF (.dr []) (aR u6 u7 Bv tj N1 tk))
noncomputable def yj:GT:=bD 141 (cl4 jF) wC
theorem Aw:cR Tryz.prog NP yj:=Sr yZ 0 Ca [] [(0,1000000)] 18 [] [] [] [(1,[0,1,2,3,4,5,6,7])] [] [] [] [] Tryz.func141 (by kernel_rfl) (by kernel_rfl) (Su fun _ _ _ _=>by kernel_rfl)
noncomputable def j7 (c:List MV) (i:MV) (m:MV):Option MV:=
 gI .i64 i fun i1=>
 gA m fun cs=>
 cf cs fun Kind gh View Value fE fH dq cE Proof EM rc rf lm gm fT=>
 cw c fun SF ST cV Want N bF=>
 idx N i1 fun y=>
 gA y fun fg=>
 aT fg fun wc we wg dB kI wh dj dk ck wi wj bE bw dm ew dp iX mE=>
 bd (uw (.agg [.i .i64 SF,.i .i64 ST]) (.i .i64 i1) (.agg (aq wc we wg dB kI wh dj dk ck wi wj bE bw dm ew dp iX mE)) (.agg (aC Kind gh View Value fE fH dq cE Proof EM rc rf lm gm fT))) fun rA=>
 gT rA fun vs=>
 gC vs fun m40 Km=>
 gA m40 fun nF=>
 aT nF fun EZ E0 E1 qX wA E3 nv nw kM E4 E5 fV fW ny qY lU E6 E7=>
 gC Km fun m59 S2=>
 gL m59 fun x=>
 gN S2<|
 bd (jF (aR SF ST cV Want N bF) (.i .i64 i1) (.agg (aq EZ E0 E1 qX wA E3 nv nw kM E4 E5 fV fW ny qY lU E6 E7)) (.list x)) fun aY=>
 gW aY fun x1 ls=>
 cw ls fun u6 u7 Bv tj N1 tk=>
 some (.eF (.dr []) (aR u6 u7 Bv tj N1 tk))
noncomputable def rX:GT:=bD 75 (cl3 j7) yj
theorem vf:cR Tryz.prog NP rX:=Sr Aw 0 Ca [] [(0,1000000)] 30 [] [] [] [(1,[0,1,2,3,4,5,6,7,8,9,10,11,12,13,14,15,16,17,18,19])] [] [] [] [] Tryz.func75 (by kernel_rfl) (by kernel_rfl) (Ss fun _ _ _=>by kernel_rfl)
noncomputable def lV (c:List MV) (i:MV) (view:MV):Option MV:=
 gI .i64 i fun i1=>
 gI .i64 view fun jz=>
 cw c fun SF ST cV Want N bF=>
 idx N i1 fun y=>
 gA y fun cs=>
 aT cs fun wc we wg dB kI wh dj dk ck wi wj bE bw dm ew dp iX mE=>
 bd (rW (.agg [.i .i64 SF,.i .i64 ST]) (.i .i64 i1) (.agg (aq wc we wg dB kI wh dj dk ck wi wj bE bw dm ew dp iX mE)) (.i .i64 jz)) fun rA=>
 gT rA fun vs=>
 gC vs fun Vi EU=>
 gA Vi fun fg=>
 aT fg fun EZ E0 E1 qX wA E3 nv nw kM E4 E5 fV fW ny qY lU E6 E7=>
 gC EU fun m43 Kn=>
 gL m43 fun x=>
 gN Kn<|
 bd (jF (aR SF ST cV Want N bF) (.i .i64 i1) (.agg (aq EZ E0 E1 qX wA E3 nv nw kM E4 E5 fV fW ny qY lU E6 E7)) (.list x)) fun aY=>
 gW aY fun x1 ls=>
 cw ls fun u6 u7 Bv tj N1 tk=>
 some (.eF (.dr []) (aR u6 u7 Bv tj N1 tk))
noncomputable def uT:GT:=bD 76 (cl3 lV) rX
theorem xC:cR Tryz.prog NP uT:=Sr vf 0 Ca [] [(0,1000000)] 30 [] [] [] [(0,[0,1,2,3,4,5,6,7,8,9,10,11,12,13,14,15,16,17,18,19])] [] [] [] [] Tryz.func76 (by kernel_rfl) (by kernel_rfl) (Ss fun _ _ _=>by kernel_rfl)
noncomputable def nB (c:List MV) (i:MV):Option MV:=
 gI .i64 i fun i1=>
 cw c fun SF ST cV Want N bF=>
 idx N i1 fun y=>
 gA y fun cs=>
 aT cs fun wc we wg dB kI wh dj dk ck wi wj bE bw dm ew dp iX mE=>
 idx Want i1 fun y1=>
 gS y1 fun x=>
 bd (ux (.agg [.i .i64 SF,.i .i64 ST]) (.i .i64 i1) (.agg (aq wc we wg dB kI wh dj dk ck wi wj bE bw dm ew dp iX mE)) (.s x)) fun rA=>
 gT rA fun vs=>
 gC vs fun Vi EU=>
 gA Vi fun fg=>
 aT fg fun EZ E0 E1 qX wA E3 nv nw kM E4 E5 fV fW ny qY lU E6 E7=>
 gC EU fun m43 Kn=>
 gL m43 fun x1=>
 gN Kn<|
 bd (jF (aR SF ST cV Want N bF) (.i .i64 i1) (.agg (aq EZ E0 E1 qX wA E3 nv nw kM E4 E5 fV fW ny qY lU E6 E7)) (.list x1)) fun aY=>
 gW aY fun x2 ls=>
 cw ls fun u6 u7 Bv tj N1 tk=>
 some (.eF (.dr []) (aR u6 u7 Bv tj N1 tk))
noncomputable def wD:GT:=bD 77 (cl2 nB) uT
theorem y9:cR Tryz.prog NP wD:=Sr xC 0 Ca [] [(0,1000000)] 34 [] [] [] [(0,[0,1,2,3,4,5,6,7,8,9,10,11,12,13,14,15,16,17,18,19,20,21,22,23,24,25])] [] [] [] [] Tryz.func77 (by kernel_rfl) (by kernel_rfl) (Mf fun _ _=>by kernel_rfl)
noncomputable def gW1:GT:=UP 72 wD
theorem S3:SG gW1:=y9.alt X9
noncomputable def oM (c:List MV) (lA:MV):Option MV:=
 gL lA fun Hd=>
 cw c fun SF ST cV Want N bF=>
 bQ Hd fun len=>
 bd (Loop (fun Ep=>
 gC Ep fun m6 wa=>
 gI .i64 m6 fun x=>
 cw wa fun x1 x2 x3 x4 x5 x6=>
 bk (decide (x<(len:Int))) (
 idx Hd x fun y=>
 gA y fun cs=>
 cf cs fun Kind gh View Value fE fH dq cE Proof EM rc rf lm gm fT=>
 bQ x6 fun eR=>
 bd (
 bk (decide ((eR:Int)<400)) (
 both (
 bd (dN (.list x6)) fun rA=>
 Tr rA fun xs=>
 cb (mF 15 xs)<|
 bQ xs fun nG=>
 bQ ([.agg (aC Kind gh View Value fE fH dq cE Proof EM rc rf lm gm fT)]:List MV) fun v8=>
 cb (decide (0<v8∧(nG+v8) *192≤2^46))<|
 some (0,(aR x1 x2 x3 x4 x5 (xs++([.agg (aC Kind gh View Value fE fH dq cE Proof EM rc rf lm gm fT)]:List MV))))) (
 bd (dN (.list x6)) fun aY=>
 Tr aY fun Ey=>
 cb (mF 15 Ey)<|
 bQ Ey fun Bk=>
 bQ ([.agg (aC Kind gh View Value fE fH dq cE Proof EM rc rf lm gm fT)]:List MV) fun yU=>
 cb (decide (0<yU∧(Bk+yU) *192≤2^46))<|
 some (0,(aR x1 x2 x3 x4 x5 (Ey++([.agg (aC Kind gh View Value fE fH dq cE Proof EM rc rf lm gm fT)]:List MV)))))) (
 some (0,(aR x1 x2 x3 x4 x5 x6)))) fun p1=>
 cb (Nat.beq p1.1 0)<|
 gJ .i64 .i64 p1.2 fun x7 x8 x9 pu pZ qN=>
 some (.inl [.i .i64 (IntKind.wrap .i64 (x+1)),.i .i64 x7,.i .i64 x8,.list x9,.list pu,.list pZ,.list qN])) (
 some (.inr (2,(aR x1 x2 x3 x4 x5 x6))))) [.i .i64 0,.i .i64 SF,.i .i64 ST,.list cV,.list Want,.list N,.list bF]) fun p=>
 cb (Nat.beq p.1 2)<|
 gJ .i64 .i64 p.2 fun qp rO uZ xZ uQ FR=>
 some (.eF (.dr []) (aR qp rO uZ xZ uQ FR))
noncomputable def yk:GT:=bD 72 (cl2 oM) gW1
theorem Ax:SG yk:=UO S3 0 Wp [] [(0,1000000)] 30 [25,26] [] [] [(4,[0,1,2,3,4,6,5,7,8,9,10,11,0,1,2,3,4,6,7,5,8,9,10,11,5,7])] [] [(4,⟨[0,5,6,7,8],[],[],[(0,[(1000000,.box [.k (.i .i64),.k (.i .i64),.k .l,.k .l,.k .l,.k .l])])],[]⟩)] [(1,⟨[0,6,7],[],[(8,.sc (.k (.i .i64))),(1000000,.box [.k (.i .i64),.k (.i .i64),.k .l,.k .l,.k .l,.k .l])],[(2,[(1000000,.box [.k (.i .i64),.k (.i .i64),.k .l,.k .l,.k .l,.k .l])])],[]⟩)] [] Tryz.func72 (by kernel_rfl) (by kernel_rfl) (Mf fun _ _=>by kernel_rfl)
noncomputable def lj (a a1:MV):Option MV:=
 gA a fun cs=>
 cw cs fun SF ST cV Want N bF=>
 gA a1 fun fg=>
 gC fg fun m6 Ep=>
 gI .i64 m6 fun Kind=>
 gC Ep fun m7 wa=>
 gI .i64 m7 fun I=>
 gC wa fun m8 ug=>
 gI .i64 m8 fun J=>
 cf ug fun Sv Sw Sx Is G8 It Bl uh Iu Ya Sy Sz Mg CY CZ=>
 bk (decide (Kind=3)) (
 bd (uq (.agg (aR SF ST cV Want N bF)) (.agg (aC Sv Sw Sx Is G8 It Bl uh Iu Ya Sy Sz Mg CY CZ))) fun rA=>
 gB rA fun x=>
 bd (
 bk x (
 bd (oM (aR SF ST cV Want N bF) (.list ([.agg (aC Sv Sw Sx Is G8 It Bl uh Iu Ya Sy Sz Mg CY CZ)]:List MV))) fun aY=>
 gW aY fun x1 ls=>
 cw ls fun u6 u7 Bv tj N1 tk=>
 some (0,(aR u6 u7 Bv tj N1 tk))) (
 some (0,(aR SF ST cV Want N bF)))) fun p=>
 cb (Nat.beq p.1 0)<|
 gJ .i64 .i64 p.2 fun x2 x3 x4 x5 x6 x7=>
 some (.agg (aR x2 x3 x4 x5 x6 x7))) (
 bd (ey (.agg (aR SF ST cV Want N bF)) (.i .i64 I) (.b false)) fun b7=>
 gB b7 fun x8=>
 bk (!x8) (
 some (.agg (aR SF ST cV Want N bF))) (
 bd (gZ 18 256 [.list N]) fun cu=>
 gF cu fun xs=>
 bd (
 bk (decide (Kind=0)) (
 bd (
 bk (decide ((0:Int)≤J)) (
 bQ bF fun len=>
 some [.b (decide (J<(len:Int)))]) (
 some [.b false])) fun vs=>
 gC vs fun m36 SA=>
 gB m36 fun x9=>
 gN SA<|
 bd (
 bk x9 (
 idx bF J fun y=>
 gA y fun nF=>
 cf nF fun acI gh View Value fE fH dq cE Proof EM rc rf lm gm fT=>
 bd (j7 (aR SF ST cV Want xs bF) (.i .i64 I) (.agg (aC acI gh View Value fE fH dq cE Proof EM rc rf lm gm fT))) fun fB=>
 gW fB fun pu ls1=>
 cw ls1 fun Yi Yj S4 Kt N2 Ku=>
 some (0,(aR Yi Yj S4 Kt N2 Ku))) (
 some (0,(aR SF ST cV Want xs bF)))) fun p2=>
 cb (Nat.beq p2.1 0)<|
 gJ .i64 .i64 p2.2 fun pZ qN qp rO Ey uZ=>
 some (0,(aR pZ qN qp rO Ey uZ))) (
 bd (
 bk (decide (Kind=1)) (
 idx xs I fun y1=>
 gA y1 fun tw=>
 aT tw fun wc we wg dB kI wh dj dk ck wi wj bE bw dm ew dp iX mE=>
 bd (lV (aR SF ST cV Want xs bF) (.i .i64 I) (.i .i64 (IntKind.wrap .i64 (dB+1)))) fun kC=>
 gW kC fun xZ ls2=>
 cw ls2 fun Yl Ym S5 Kv N3 Kw=>
 some (0,(aR Yl Ym S5 Kv N3 Kw))) (
 bd (
 bk (decide (Kind=2)) (
 bd (nB (aR SF ST cV Want xs bF) (.i .i64 I)) fun pD=>
 gW pD fun uQ ls3=>
 cw ls3 fun SF4 ST4 Yw S7 N4 acJ=>
 some (0,(aR SF4 ST4 Yw S7 N4 acJ))) (
 bd (
 bk (decide (Kind=4)) (
 idx xs I fun y2=>
 gA y2 fun cs4=>
 aT cs4 fun EZ E0 E1 qX wA E3 nv nw kM E4 E5 fV fW ny qY lU E6 E7=>
 bd (qa (.agg [.i .i64 SF,.i .i64 ST]) (.i .i64 I) (.agg (aq EZ E0 E1 qX wA E3 nv nw kM E4 E5 fV fW ny qY lU E6 E7))) fun vP=>
 gA vP fun cs5=>
 aT cs5 fun ahq ahr ahs Yx acK aht Vk Vl S9 ahu ahv Ml Mm Vm Yy Vn ahw ahx=>
 idx xs I fun y3=>
 gA y3 fun cs6=>
 aT cs6 fun amv amw amx ahy ajs amy ad8 ad9 acL amz amA Yz YA aea ahz aeb amB amC=>
 some (0,(aR SF ST cV Want (xs.set (Int.toNat I) (.agg (aq ahq ahr ahs Yx acK aht Vk Vl S9 ahu ahv Ml Mm Vm Yy Vn ahw ahx))) bF))) (
 some (0,(aR SF ST cV Want xs bF)))) fun p5=>
 cb (Nat.beq p5.1 0)<|
 gJ .i64 .i64 p5.2 fun FR PW NR PX Ac NS=>
 some (0,(aR FR PW NR PX Ac NS)))) fun p4=>
 cb (Nat.beq p4.1 0)<|
 gJ .i64 .i64 p4.2 fun TE TF SI SJ NQ SK=>
 some (0,(aR TE TF SI SJ NQ SK)))) fun p3=>
 cb (Nat.beq p3.1 0)<|
 gJ .i64 .i64 p3.2 fun SL SM SN SO SE SP=>
 some (0,(aR SL SM SN SO SE SP)))) fun p1=>
 cb (Nat.beq p1.1 0)<|
 gJ .i64 .i64 p1.2 fun SQ Vh Zx Zy Vg Zz=>
 some (.agg (aR SQ Vh Zx Zy Vg Zz))))
noncomputable def Hh:GT:=bD 29 (hM lj) yk
theorem F4:SG Hh:=zj Ax [] [] 96 [17] [] [] [(12,[0,1,2,3,4,5,6,7,8,9]),(14,[0,1,2,3,4,5,6,7,8,9,10,11,12]),(18,[0,1,2,3,4,5,6,7,8,9,10,11,12,13,14,15,16])] [(11,⟨[2,3,4],[29],[],[(0,[(45,.sc (.k .b)),(5,.pt 2 0)])],[]⟩)] [(12,⟨[3,4],[],[],[(0,[(2,.box [.k (.i .i64),.k (.i .i64),.k .l,.k .l,.own 29 40 false,.k .l]),(5,.pt 2 0)])],[]⟩),(18,⟨[3,4],[],[],[(0,[(2,.box [.k (.i .i64),.k (.i .i64),.k .l,.k .l,.own 29 40 false,.k .l]),(5,.pt 2 0)])],[2000004]⟩),(16,⟨[3,4,32],[],[],[(0,[(2,.box [.k (.i .i64),.k (.i .i64),.k .l,.k .l,.own 29 40 false,.k .l]),(5,.pt 2 0)])],[]⟩),(14,⟨[3,4,32],[],[],[(0,[(2,.box [.k (.i .i64),.k (.i .i64),.k .l,.k .l,.own 29 40 false,.k .l]),(5,.pt 2 0)])],[]⟩),(11,⟨[3,4,32],[],[],[(0,[(2,.box [.k (.i .i64),.k (.i .i64),.k .l,.k .l,.own 29 40 false,.k .l]),(5,.pt 2 0)])],[]⟩),(4,⟨[3,4,5],[],[],[(0,[(2,.box [.k (.i .i64),.k (.i .i64),.k .l,.k .l,.k .l,.k .l])])],[]⟩)] [] [] Tryz.func29 (by kernel_rfl) (bU (fun _ _=>by kernel_rfl))
noncomputable def n7:Option MV:=
 cb (decide ((0:Int)≤4∧(4:Int)=4∧(4:Int) *1≤2^46))<|
 bd (wb (.agg [.i .i64 1,.i .i64 0]) (.list (List.replicate (Int.toNat 4) (.b false))) (.list ([.s ([97]:List UInt8),.s ([98]:List UInt8),.s ([99]:List UInt8),.s ([100]:List UInt8)]:List MV))) fun rA=>
 gT rA fun vs=>
 gC vs fun m u5=>
 gA m fun cs=>
 cw cs fun SF ST cV Want N bF=>
 gC u5 fun m7 wa=>
 gI .i64 m7 fun x=>
 gN wa<|
 bd (lj (.agg (aR SF ST cV Want N bF)) (.agg (cT 2 0 0 0 0 0 ([]:List UInt8) ([]:List MV) 0 0 ([]:List UInt8) ([]:List MV) 0 0 false 0 ([]:List UInt8) ([]:List MV)))) fun aY=>
 gA aY fun fg=>
 cw fg fun u6 u7 Bv tj N1 tk=>
 bd (Loop (fun s5=>
 vZ s5 fun c c1 c2 c3 c4 c5 i=>
 bk (decide (i<4)) (
 bd (lj (.agg (aR c c1 c2 c3 c4 c5)) (.agg (cT 0 i 0 0 0 0 ([]:List UInt8) ([]:List MV) 0 0 ([]:List UInt8) ([]:List MV) 0 0 false 0 ([]:List UInt8) ([]:List MV)))) fun b7=>
 gA b7 fun nF=>
 cw nF fun Yi Yj S4 Kt N2 Ku=>
 some (.inl (gK Yi Yj S4 Kt N2 Ku (IntKind.wrap .i64 (i+1))))) (
 some (.inr (2,(aR c c1 c2 c3 c4 c5))))) (gK u6 u7 Bv tj N1 tk 0)) fun p=>
 cb (Nat.beq p.1 2)<|
 gJ .i64 .i64 p.2 fun c6 c7 c8 c9 c10 c11=>
 bd (Loop (fun SS=>
 vZ SS fun c12 c13 c14 c15 c16 c17 i1=>
 bk (decide (i1<5)) (
 bd (lj (.agg (aR c12 c13 c14 c15 c16 c17)) (.agg (cT 0 2 i1 0 0 0 ([]:List UInt8) ([]:List MV) 0 0 ([]:List UInt8) ([]:List MV) 0 0 false 0 ([]:List UInt8) ([]:List MV)))) fun cu=>
 gA cu fun tw=>
 cw tw fun Yl Ym S5 Kv N3 Kw=>
 some (.inl (gK Yl Ym S5 Kv N3 Kw (IntKind.wrap .i64 (i1+1))))) (
 some (.inr (4,(aR c12 c13 c14 c15 c16 c17))))) (gK c6 c7 c8 c9 c10 c11 1)) fun p1=>
 cb (Nat.beq p1.1 4)<|
 gJ .i64 .i64 p1.2 fun c18 c19 c20 c21 c22 c23=>
 bd (li (.agg (aR c18 c19 c20 c21 c22 c23)) (.i .i64 2)) fun fB=>
 gT fB fun jC=>
 gC jC fun m52 acM=>
 gS m52 fun x1=>
 gC acM fun m53 Ta=>
 gB m53 fun x2=>
 gN Ta<|
 bd (li (.agg (aR c18 c19 c20 c21 c22 c23)) (.i .i64 1)) fun kC=>
 gT kC fun qE=>
 gC qE fun m54 acN=>
 gS m54 fun x3=>
 gC acN fun m55 acO=>
 gB m55 fun x4=>
 gN acO<|
 bd (
 bk (decide (x=0)) (
 bk x2 (
 bk (decide (x1=([97]:List UInt8))) (
 some [.b (!x4)]) (
 some [.b false])) (
 some [.b false])) (
 some [.b false])) fun SU=>
 gC SU fun m56 S2=>
 gB m56 fun x5=>
 gN S2<|
 some (.b x5)
noncomputable def Hi:GT:=bD 9 (XZ n7) Hh
theorem F5:SG Hi:=zj F4 [] [] 58 [12] [] [] [] [(13,⟨[2,5,6,8],[],[],[(0,[(0,.sc (.k .b))])],[11]⟩)] [] [(8,⟨[2],[],[(1,.box [.k (.i .i64),.k (.i .i64),.k .l,.k .l,.k .l,.k .l]),(4,.sc (.k (.i .i64)))],[(4,[(1,.box [.k (.i .i64),.k (.i .i64),.k .l,.k .l,.k .l,.k .l])])],[11]⟩),(4,⟨[2],[],[(1,.box [.k (.i .i64),.k (.i .i64),.k .l,.k .l,.k .l,.k .l]),(3,.sc (.k (.i .i64)))],[(2,[(1,.box [.k (.i .i64),.k (.i .i64),.k .l,.k .l,.k .l,.k .l])])],[11]⟩)] [] Tryz.func9 (by kernel_rfl) (U7 (by kernel_rfl))
noncomputable def uy (a a1 a2:MV):Option MV:=
 gA a fun cs=>
 gC cs fun m u5=>
 gI .i64 m fun SF=>
 gC u5 fun m1 sn=>
 gI .i64 m1 fun ST=>
 gC sn fun m2 na=>
 gL m2 fun cV=>
 gC na fun m3 yR=>
 gL m3 fun Want=>
 gN yR<|
 gI .i64 a1 fun jm=>
 gB a2 fun Mi=>
 bd (
 bd (xm (.agg [.i .i64 SF,.i .i64 ST,.list cV,.list Want]) (.list ([]:List MV))) fun rA=>
 gB rA fun x=>
 bk (!x) (
 some [.b true]) (
 bQ cV fun len=>
 bk (decide ((len:Int)<1)) (
 some [.b true]) (
 bk (decide (jm<0)) (
 some [.b true]) (
 some [.b (decide ((1000000:Int)<jm))])))) fun vs=>
 gC vs fun m4 yS=>
 gB m4 fun x1=>
 gN yS<|
 bk x1 (
 bd (n7) fun aY=>
 gB aY fun x2=>
 some (.b x2)) (
 bd (wb (.agg [.i .i64 SF,.i .i64 ST]) (.list cV) (.list Want)) fun b7=>
 gT b7 fun jC=>
 gC jC fun m5 yT=>
 gA m5 fun fg=>
 cw fg fun u6 u7 Bv tj N bF=>
 gC yT fun Bh kG=>
 gI .i64 Bh fun x3=>
 gN kG<|
 bd (
 bk (!decide (x3=0)) (
 some [.b true]) (
 idx cV 0 fun y=>
 gB y fun x4=>
 some [.b x4])) fun qE=>
 gC qE fun Io qP=>
 gB Io fun x5=>
 gN qP<|
 bk x5 (
 bd (n7) fun cu=>
 gB cu fun x6=>
 some (.b x6)) (
 bd (nZ (.agg [.i .i64 SF,.i .i64 ST])) fun fB=>
 gI .i64 fB fun x7=>
 bd (te (.agg [.i .i64 SF,.i .i64 ST])) fun kC=>
 gI .i64 kC fun x8=>
 bd (Loop (fun s5=>
 Bj s5 fun xs x9=>
 bd (
 bk (decide (x9<x7)) (
 bQ xs fun eR=>
 some [.b (decide ((eR:Int)<x8))]) (
 some [.b false])) fun SU=>
 gC SU fun Pf nj=>
 gB Pf fun pu=>
 gN nj<|
 bk pu (
 cb (!decide (x7=0))<|
 bd (
 idx cV (Int.tmod (IntKind.wrap .i64 (jm+x9)) x7) fun y1=>
 gB y1 fun pZ=>
 bk (!pZ) (
 bk (!decide ((Int.tmod (IntKind.wrap .i64 (jm+x9)) x7)=0)) (
 bQ xs fun nG=>
 some [.b (decide ((nG:Int)<(IntKind.wrap .i64 (x8-1))))]) (
 some [.b false])) (
 some [.b false])) fun vs4=>
 gC vs4 fun Bi kH=>
 gB Bi fun qN=>
 gN kH<|
 bd (
 bk qN (
 bQ xs fun v8=>
 bQ ([.i .i64 (Int.tmod (IntKind.wrap .i64 (jm+x9)) x7)]:List MV) fun Bk=>
 cb (decide ((v8+Bk) *8≤2^46))<|
 some (0,[.list (xs++([.i .i64 (Int.tmod (IntKind.wrap .i64 (jm+x9)) x7)]:List MV))])) (
 some (0,[.list xs]))) fun p1=>
 cb (Nat.beq p1.1 0)<|
 gC p1.2 fun FQ o7=>
 gL FQ fun Ey=>
 gN o7<|
 some (.inl [.list Ey,.i .i64 (IntKind.wrap .i64 (x9+1))])) (
 some (.inr (2,[.list xs])))) [.list ([]:List MV),.i .i64 0]) fun p=>
 cb (Nat.beq p.1 2)<|
 gC p.2 fun Pl o8=>
 gL Pl fun Ac=>
 gN o8<|
 bQ Ac fun yU=>
 bQ ([.i .i64 0]:List MV) fun Kk=>
 cb (decide ((yU+Kk) *8≤2^46))<|
 bQ (Ac++([.i .i64 0]:List MV)) fun Yb=>
 bk (decide ((Yb:Int)<x8)) (
 bd (n7) fun pD=>
 gB pD fun qp=>
 some (.b qp)) (
 bd (lj (.agg (aR u6 u7 Bv tj N bF)) (.agg (cT 2 0 0 0 0 0 ([]:List UInt8) ([]:List MV) 0 0 ([]:List UInt8) ([]:List MV) 0 0 false 0 ([]:List UInt8) ([]:List MV)))) fun vP=>
 gA vP fun nF=>
 cw nF fun Yi Yj S4 Kt N1 tk=>
 bd (Loop (fun Er=>
 vZ Er fun rO uZ xZ uQ FR PW NR=>
 bQ (Ac++([.i .i64 0]:List MV)) fun Vf=>
 bk (decide (NR<(Vf:Int))) (
 idx (Ac++([.i .i64 0]:List MV)) NR fun y2=>
 gI .i64 y2 fun PX=>
 bd (lj (.agg (aR rO uZ xZ uQ FR PW)) (.agg (cT 0 PX 0 0 0 0 ([]:List UInt8) ([]:List MV) 0 0 ([]:List UInt8) ([]:List MV) 0 0 false 0 ([]:List UInt8) ([]:List MV)))) fun Mb=>
 gA Mb fun tw=>
 cw tw fun Yl Ym S5 Kv N2 Ku=>
 some (.inl (gK Yl Ym S5 Kv N2 Ku (IntKind.wrap .i64 (NR+1))))) (
 some (.inr (4,(aR rO uZ xZ uQ FR PW))))) (gK Yi Yj S4 Kt N1 tk 0)) fun p2=>
 cb (Nat.beq p2.1 4)<|
 gJ .i64 .i64 p2.2 fun NS TE TF SI SJ SK=>
 bd (Loop (fun acP=>
 vZ acP fun SL SM SN SO SP SQ Vh=>
 bQ (Ac++([.i .i64 0]:List MV)) fun Yd=>
 bk (decide (Vh<(Yd:Int))) (
 bd (Loop (fun Ta=>
 vZ Ta fun Zx Zy Zz x38 x39 ZA ZB=>
 bQ (Ac++([.i .i64 0]:List MV)) fun acQ=>
 bk (decide (ZB≤(acQ:Int))) (
 bd (
 bk Mi (
 bQ (Ac++([.i .i64 0]:List MV)) fun acR=>
 some (0,[.i .i64 (IntKind.wrap .i64 ((IntKind.wrap .i64 ((acR:Int)+1))-ZB))])) (
 some (0,[.i .i64 ZB]))) fun p5=>
 cb (Nat.beq p5.1 0)<|
 gC p5.2 fun m59 S0=>
 gI .i64 m59 fun x42=>
 gN S0<|
 bd (
 bQ ZA fun acS=>
 bk (decide ((acS:Int)≤x42)) (
 some [.b true]) (
 idx ZA x42 fun y3=>
 gA y3 fun cs4=>
 cf cs4 fun Kind gh View Value fE fH dq cE Proof EM rc rf lm gm fT=>
 some [.b (!decide (Kind=2))])) fun vs5=>
 gC vs5 fun m75 acT=>
 gB m75 fun x43=>
 gN acT<|
 bk x43 (
 some (.inr (1,[.b false]))) (
 idx (Ac++([.i .i64 0]:List MV)) Vh fun y4=>
 gI .i64 y4 fun x44=>
 bd (lj (.agg (aR Zx Zy Zz x38 x39 ZA)) (.agg (cT 0 x44 x42 0 0 0 ([]:List UInt8) ([]:List MV) 0 0 ([]:List UInt8) ([]:List MV) 0 0 false 0 ([]:List UInt8) ([]:List MV)))) fun NK=>
 gA NK fun cs5=>
 cw cs5 fun SF4 ST4 Yw S7 N3 Kw=>
 some (.inl (gK SF4 ST4 Yw S7 N3 Kw (IntKind.wrap .i64 (ZB+1)))))) (
 some (.inr (8,(aR Zx Zy Zz x38 x39 ZA))))) (gK SL SM SN SO SP SQ 1)) fun p4=>
 bk (Nat.beq p4.1 8) (
 gJ .i64 .i64 p4.2 fun x45 x46 x47 x48 x49 x50=>
 some (.inl (gK x45 x46 x47 x48 x49 x50 (IntKind.wrap .i64 (Vh+1))))) (
 cb (Nat.beq p4.1 1)<|
 gC p4.2 fun m88 acU=>
 gB m88 fun x51=>
 gN acU<|
 some (.inr (1,[.b x51])))) (
 some (.inr (6,(aR SL SM SN SO SP SQ))))) (gK NS TE TF SI SJ SK 0)) fun p3=>
 bk (Nat.beq p3.1 6) (
 gJ .i64 .i64 p3.2 fun x52 x53 x54 x55 x56 x57=>
 bd (Loop (fun acV=>
 gC acV fun m95 YB=>
 gI .i64 m95 fun ZC=>
 gN YB<|
 bQ (Ac++([.i .i64 0]:List MV)) fun acW=>
 bk (decide (ZC<(acW:Int))) (
 idx (Ac++([.i .i64 0]:List MV)) ZC fun y5=>
 gI .i64 y5 fun x59=>
 bd (li (.agg (aR x52 x53 x54 x55 x56 x57)) (.i .i64 x59)) fun Sj=>
 gT Sj fun vs6=>
 gC vs6 fun m96 YC=>
 gS m96 fun x60=>
 gC YC fun m97 YD=>
 gB m97 fun x61=>
 gN YD<|
 bd (
 bk (!x61) (
 some [.b true]) (
 idx Want 0 fun y6=>
 gS y6 fun x62=>
 bk (!decide (x60=x62)) (
 some [.b true]) (
 idx (Ac++([.i .i64 0]:List MV)) ZC fun y7=>
 gI .i64 y7 fun x63=>
 idx x56 x63 fun y8=>
 gA y8 fun cs6=>
 aT cs6 fun wc we wg dB kI wh dj dk ck wi wj bE bw dm ew dp iX mE=>
 bQ bw fun acX=>
 some [.b (!decide ((acX:Int)=0))]))) fun vs7=>
 gC vs7 fun ahA YE=>
 gB ahA fun x64=>
 gN YE<|
 bk x64 (
 some (.inr (1,[.b false]))) (
 some (.inl [.i .i64 (IntKind.wrap .i64 (ZC+1))]))) (
 some (.inr (10,[])))) [.i .i64 0]) fun Yu=>
 bk (Nat.beq Yu.1 10) (
 gN Yu.2<|
 bd (n7) fun U9=>
 gB U9 fun x65=>
 some (.b x65)) (
 cb (Nat.beq Yu.1 1)<|
 gC Yu.2 fun ahB YF=>
 gB ahB fun x66=>
 gN YF<|
 some (.b x66))) (
 cb (Nat.beq p3.1 1)<|
 gC p3.2 fun ahC YG=>
 gB ahC fun x67=>
 gN YG<|
 some (.b x67)))))
noncomputable def Iy:GT:=bD 4 (yG uy) Hi
theorem Bw:SG Iy:=zj F5 [] [] 208 [100,103] [] [] [(6,[0,1,3,4,2,5,6,7]),(21,[0,1,2,3,4,5,6,7]),(33,[0,1,2,3,4,5,6,7,8]),(37,[0,1,2,3,4,5,6,7,8,9,10]),(38,[0,1,2,3,4,5,6,7,8,9,10,11,12,13,14,15,16,17,18,19,20,21,22,23,24])] [(38,⟨[3,7,11,18,19,20],[64],[],[(0,[(206,.sc (.k .b))])],[64]⟩),(31,⟨[2,3,7,11,15,16,17],[64],[],[(0,[(158,.sc (.k .b))])],[64]⟩),(12,⟨[1,2,3,7,9,10,11,12,13],[64],[],[(0,[(97,.sc (.k .b))])],[64]⟩),(9,⟨[1,2,3,7,9,10,11,12],[64],[],[(0,[(73,.sc (.k .b))])],[64]⟩),(4,⟨[1,2,3,7,8],[],[],[(0,[(56,.sc (.k .b))])],[64]⟩),(1,⟨[1,2,3],[],[],[(0,[(37,.sc (.k .b))])],[64]⟩)] [(30,⟨[2,3,7,11,15,16],[64],[],[(0,[(17,.sc (.k (.i .i64)))])],[64]⟩),(13,⟨[1,2,3,7,9,10,12,13],[],[],[(0,[(11,.sc (.own 64 3 true))])],[64]⟩)] [(35,⟨[3,7,11],[64],[(18,.sc (.k (.i .i64)))],[(1,[(6,.sc (.k .b))]),(10,[])],[64]⟩),(26,⟨[2,3,11,15],[64],[(7,.box [.k (.i .i64),.k (.i .i64),.k .l,.k .l,.k .l,.k .l]),(16,.sc (.k (.i .i64)))],[(1,[(6,.sc (.k .b))]),(8,[(7,.box [.k (.i .i64),.k (.i .i64),.k .l,.k .l,.k .l,.k .l])])],[64]⟩),(23,⟨[2,3,11],[64],[(7,.box [.k (.i .i64),.k (.i .i64),.k .l,.k .l,.k .l,.k .l]),(15,.sc (.k (.i .i64)))],[(1,[(6,.sc (.k .b))]),(6,[(7,.box [.k (.i .i64),.k (.i .i64),.k .l,.k .l,.k .l,.k .l])])],[64]⟩),(19,⟨[2,3,11],[64],[(7,.box [.k (.i .i64),.k (.i .i64),.k .l,.k .l,.k .l,.k .l]),(14,.sc (.k (.i .i64)))],[(4,[(7,.box [.k (.i .i64),.k (.i .i64),.k .l,.k .l,.k .l,.k .l])])],[64]⟩),(9,⟨[1,2,3,7,9,10],[],[(11,.sc (.own 64 3 true)),(12,.sc (.k (.i .i64)))],[(2,[(11,.sc (.own 64 3 true))])],[64]⟩)] [] Tryz.func4 (by kernel_rfl) (kU (fun _ _ _=>by kernel_rfl))
end Dn.S
