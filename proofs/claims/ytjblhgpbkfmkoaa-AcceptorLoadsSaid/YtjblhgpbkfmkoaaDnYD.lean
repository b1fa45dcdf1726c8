import Derived.Test.YtjblhgpbkfmkoaaDnYTab
import Derived.Test.YtjblhgpbkfmkoaaDnC
import Derived.Test.YtjblhgpbkfmkoaaDnYT
import Derived.KernelRfl
import Derived.Test.YtjblhgpbkfmkoaaProg
/-
  The functions, on plain values, and their contracts. Conditions: none.
-/
open Go Dn Go.Proofs
set_option linter.unusedVariables false
set_option linter.unusedSimpArgs false
set_option maxRecDepth 100000
namespace Dn.S
theorem BB:fc Try.prog (pE Gz):=Br (by kernel_rfl)
theorem GM:A5 Try.prog (pE Gz):=HS (by kernel_rfl)
theorem BC:Try.prog.follows .mixedOrders=true:=by kernel_rfl
def rj {R:Type} (k0 k1:IntKind) (l0:List MV) (K:Int→Int→Option R):Option R:=gC l0 fun m0 l1=>gI k0 m0 fun x0=>gC l1 fun m1 l2=>gI k1 m1 fun x1=>gN l2<|K x0 x1
def mb {R:Type} (k0 k1 k3:IntKind) (l0:List MV) (K:Int→Int→Bool→Int→List UInt8→List MV→Option R):Option R:=gC l0 fun m0 l1=>gI k0 m0 fun x0=>gC l1 fun m1 l2=>gI k1 m1 fun x1=>gC l2 fun m2 l3=>gB m2 fun x2=>gC l3 fun m3 l4=>gI k3 m3 fun x3=>gC l4 fun m4 l5=>gS m4 fun x4=>gC l5 fun m5 l6=>gL m5 fun x5=>gN l6<|K x0 x1 x2 x3 x4 x5
def bh {R:Type} (k0 k1 k2 k3 k5:IntKind) (l0:List MV) (K:Int→Int→Int→Int→Bool→Int→List UInt8→List MV→List MV→Option R):Option R:=gC l0 fun m0 l1=>gI k0 m0 fun x0=>gC l1 fun m1 l2=>gI k1 m1 fun x1=>gC l2 fun m2 l3=>gI k2 m2 fun x2=>gC l3 fun m3 l4=>gI k3 m3 fun x3=>gC l4 fun m4 l5=>gB m4 fun x4=>gC l5 fun m5 l6=>gI k5 m5 fun x5=>gC l6 fun m6 l7=>gS m6 fun x6=>gC l7 fun m7 l8=>gL m7 fun x7=>gC l8 fun m8 l9=>gL m8 fun x8=>gN l9<|K x0 x1 x2 x3 x4 x5 x6 x7 x8
def eZ {R:Type} (k0 k1:IntKind) (l0:List MV) (K:Int→Int→List UInt8→Option R):Option R:=gC l0 fun m0 l1=>gI k0 m0 fun x0=>gC l1 fun m1 l2=>gI k1 m1 fun x1=>gC l2 fun m2 l3=>gS m2 fun x2=>gN l3<|K x0 x1 x2
def BD {R:Type} (k0 k2:IntKind) (l0:List MV) (K:Int→List MV→Int→Option R):Option R:=gC l0 fun m0 l1=>gI k0 m0 fun x0=>gC l1 fun m1 l2=>gL m1 fun x1=>gC l2 fun m2 l3=>gI k2 m2 fun x2=>gN l3<|K x0 x1 x2
def tJ {R:Type} (k1:IntKind) (l0:List MV) (K:List MV→Int→Option R):Option R:=gC l0 fun m0 l1=>gL m0 fun x0=>gC l1 fun m1 l2=>gI k1 m1 fun x1=>gN l2<|K x0 x1
def Fq {R:Type} (l0:List MV) (K:List MV→List MV→Bool→Option R):Option R:=gC l0 fun m0 l1=>gL m0 fun x0=>gC l1 fun m1 l2=>gL m1 fun x1=>gC l2 fun m2 l3=>gB m2 fun x2=>gN l3<|K x0 x1 x2
@[reducible] def qA (x0 : Int) (x1 : Int) (x2 : Bool) (x3 : Int) (x4 : List UInt8) (x5 : List MV) : List MV := [.i .i64 x0, .i .i64 x1, .b x2, .i .i64 x3, .s x4, .list x5]
@[reducible] def aI (x0 : Int) (x1 : Int) (x2 : Int) (x3 : Int) (x4 : Bool) (x5 : Int) (x6 : List UInt8) (x7 : List MV) (x8 : List MV) : List MV := [.i .i64 x0, .i .i64 x1, .i .i64 x2, .i .i64 x3, .b x4, .i .i64 x5, .s x6, .list x7, .list x8]
def GN:List (Nat×iR)→Nat→iR
 |[],_=>default
 |(k,s)::r,t=>bif Nat.beq k t then s else GN r t
def Lr:List (Nat×List Nat)→Nat→List Nat
 |[],_=>[]
 |(k,s)::r,t=>bif Nat.beq k t then s else Lr r t
def Ls:List (Nat×Nat)→Nat→Nat
 |[],_=>0
 |(k,s)::r,t=>bif Nat.beq k t then s else Ls r t
def kk (n:Nat):Nat:=n
def gv (n:Nat):Bool:=aT [118,71,72,73] n
def Yr (n:Nat):Bool:=aT [117,118,106,78,79,107,81,82,126] n
def OY:List (Nat×Nat):=[(117,72),(118,72),(106,5),(78,5),(79,5),(107,5),(81,5),(82,5)]
def Dd:List (Nat×FloatKind)→Nat→Option FloatKind
 |[],_=>none
 |(k,s)::r,t=>bif Nat.beq k t then some s else Dd r t
def GO:List (Nat×FloatKind):=[(170,.f64)]
theorem GP: ∀t k,Dd GO t=some k→Try.prog.underlying t=some (.float k):=by
 intro t k h
 unfold GO at h
 simp only [Dd] at h
 cases hb:Nat.beq 170 t with
 |true=>
  rw [hb] at h
  have ht:=Nat.eq_of_beq_eq_true hb
  subst ht
  simp only [cond_true,Option.some.injEq] at h
  subst h
  exact Try.underlying170
 |false=>
 rw [hb] at h
 simp only [cond_false] at h
 cases h
def Lt:List (Nat×(Nat×Bool)):=[(190,(9,false))]
def Lu:List (Nat×(Nat×List LK))→Nat→Option (Nat×List LK)
 |[],_=>none
 |(k,s)::r,t=>bif Nat.beq k t then some s else Lu r t
abbrev Ae:List LK:=[.k (.l),.k (.i .i64)]
def Lv:List (Nat×(Nat×List LK)):=[(71,(0,Ae)),(72,(0,Ae)),(73,(0,Ae))]
def dl (n:Nat):Bool:=aT [] n
def cx:Ctx:=⟨pE Gz,kk,fun _ _=>none,gv,Yr,Ls OY,Lu Lv,[],0,[],[],fun _=>[],Dd GO,xi Lt,fun _=>[],fun _=>default,fun _=>default,fun _=>default,dl,[]⟩
def Fs (g:Nat→List MV→Option MV) (par:List (Nat×Nat)) (n:Nat) (bs fl:List Nat) (fz ord:List (Nat×List Nat)) (tL tH pe:List (Nat×iR)) (dyn:List Nat):Ctx:=⟨pE Gz,kk,g,gv,Yr,Ls OY,Lu Lv,par,n,bs,fl,Lr fz,Dd GO,xi Lt,Lr ord,GN tL,GN tH,GN pe,dl,dyn⟩
theorem GQ:pA Try.prog cx:=E7 (l:=Lt) (by kernel_rfl) (fun _ _ h=>h)
theorem vV:kR Try.prog cx:=by
 intro n hn
 unfold cx dl aT at hn
 cases hn
theorem yG {g:Nat→List MV→Option MV} (s:aC Try.prog cx g) (bk:List (List Kd)) (par:List (Nat×Nat)) (tn:Nat) (bs fl:List Nat) (fz ord:List (Nat×List Nat)) (tL tH pe:List (Nat×iR)) (dyn:List Nat) {n:Nat} {fn:Func} {F:List MV→Option MV} (hf:Try.prog.funcs[n]? =some fn)
 (hh:rh (Fs g par tn bs fl fz ord tL tH pe dyn) n fn bk=true) (hF: ∀{ms r},F ms=some r→zC (Fs g par tn bs fl fz ord tL tH pe dyn) bk none fn ms=some r):aC Try.prog cx (bQ n F g):=
 s.fn (c':=Fs g par tn bs fl fz ord tL tH pe dyn) ⟨rfl,rfl,rfl,rfl,rfl,rfl,rfl,rfl,rfl⟩ rfl BB GM GP GQ BC vV hf hh (fun _=>rfl) (fresh:=none) rfl hF
theorem qQ {g:Nat→List MV→Option MV} (s:aC Try.prog cx g) (bk:List (List Kd)) (tn:Nat) (tL tH pe:List (Nat×iR)) {n:Nat} {fn:Func} {F:List MV→Option MV} (hf:Try.prog.funcs[n]? =some fn)
 (hh:rh (Fs g [] tn [] [] [] [] tL tH pe []) n fn bk=true) (hF: ∀{ms r},F ms=some r→zC (Fs g [] tn [] [] [] [] tL tH pe []) bk none fn ms=some r):aC Try.prog cx (bQ n F g):=yG s bk [] tn [] [] [] [] tL tH pe [] hf hh hF
theorem Tg {g:Nat→List MV→Option MV} (s:aC Try.prog cx g) (pos:Nat) (ks:List LK) (bk:List (List Kd)) (par:List (Nat×Nat)) (tn:Nat) (bs fl:List Nat) (fz ord:List (Nat×List Nat)) (tL tH pe:List (Nat×iR)) (dyn:List Nat) {n:Nat} {fn:Func} {F:List MV→Option MV} (hf:Try.prog.funcs[n]? =some fn) (hs:cx.sig n=some (pos,ks))
 (hh:K6 (Fs g par tn bs fl fz ord tL tH pe dyn) n fn bk=true) (hF: ∀{ms r},F ms=some r→F7 (Fs g par tn bs fl fz ord tL tH pe dyn) bk pos ks fn ms=some r):aC Try.prog cx (bQ n F g):=
 s.Tg BB GM GP GQ BC vV hf hs (fun _=>rfl) fun h=>⟨Fs g par tn bs fl fz ord tL tH pe dyn,⟨rfl,rfl,rfl,rfl,rfl,rfl,rfl,rfl,rfl⟩,rfl,hh,hF h⟩
theorem Rx {g:Nat→List MV→Option MV} (s:aC Try.prog cx g) (ty:Nat) (bk:List (List Kd)) (par:List (Nat×Nat)) (tn:Nat) (bs fl:List Nat) (fz ord:List (Nat×List Nat)) (tL tH pe:List (Nat×iR)) (dyn:List Nat) {n:Nat} {fn:Func} {F:List MV→Option MV} (hf:Try.prog.funcs[n]? =some fn)
 (hh:rh (Fs g par tn bs fl fz ord tL tH pe dyn) n fn bk=true) (vt:rU (Fs g par tn bs fl fz ord tL tH pe dyn) n fn (some ty)=true) (hF: ∀{ms r},F ms=some r→zC (Fs g par tn bs fl fz ord tL tH pe dyn) bk (some ty) fn ms=some r):aC Try.prog cx (bQ n F g):=
 s.fn (c':=Fs g par tn bs fl fz ord tL tH pe dyn) ⟨rfl,rfl,rfl,rfl,rfl,rfl,rfl,rfl,rfl⟩ rfl BB GM GP GQ BC vV hf hh (fun _=>rfl) vt hF
theorem UA {g:Nat→List MV→Option MV} (s:aC Try.prog cx g) (bk:List (List Kd)) (par:List (Nat×Nat)) (tn:Nat) (bs fl:List Nat) (fz ord:List (Nat×List Nat)) (tL tH pe:List (Nat×iR)) (dyn:List Nat) {n:Nat} {fn:Func} {F:List MV→Option MV} (hf:Try.prog.funcs[n]? =some fn)
 (hh:rh (Fs g par tn bs fl fz ord tL tH pe dyn) n fn bk=true) (hF: ∀{ms r},F ms=some r→C7 (Fs g par tn bs fl fz ord tL tH pe dyn) bk none fn ms=some r):aC Try.prog cx (bQ n F g):=
 s.UA (c':=Fs g par tn bs fl fz ord tL tH pe dyn) ⟨rfl,rfl,rfl,rfl,rfl,rfl,rfl,rfl,rfl⟩ rfl BB GM GP GQ BC vV hf hh (fun _=>rfl) (fresh:=none) rfl hF
abbrev Tx (d:List MV→Option MV):List MV→Option MV:=fun ms=>match ms with|[.cell (.func off a0)]=>(match Nat.beq off 0 with|true=>d a0|false=>none)|_=>none
theorem Ft {d:List MV→Option MV} {B:List MV→Option MV} (h: ∀a0,B [.cell (.func 0 a0)]=d a0) {ms:List MV} {r:MV} (e:Tx d ms=some r):B ms=some r:=by
 unfold Tx at e
 split at e
 ·rename_i off a0
  cases ho:Nat.beq off 0 with
  |true=>
   have:=Nat.eq_of_beq_eq_true ho
   subst this
   exact (h _).trans e
  |false=>rw [ho] at e;cases e
 ·cases e
noncomputable def nr (lA:MV):Option MV:=
 gL lA fun NN=>
 bd (Loop (fun vz=>
 gC vz fun m rY=>
 gI .i64 m fun i=>
 gN rY<|
 bU NN fun len=>
 ba (decide (i<(len:Int))) (
 bd (
 ba (decide (i=40)) (
 some [.b true]) (
 idx NN i fun y=>
 gA y fun cs=>
 eZ .i64 .i64 cs fun By View Value=>
 some [.b (decide ((6100:Int)<(Value.length:Int)))])) fun vs=>
 gC vs fun m4 Lw=>
 gB m4 fun x=>
 gN Lw<|
 ba x (
 some (.inr (1,[.b false]))) (
 some (.inl [.i .i64 (IntKind.wrap .i64 (i+1))]))) (
 some (.inr (2,[])))) [.i .i64 0]) fun p=>
 ba (Nat.beq p.1 2) (
 gN p.2<|
 some (.b true)) (
 b9 (Nat.beq p.1 1)<|
 gC p.2 fun m5 Lx=>
 gB m5 fun x1=>
 gN Lx<|
 some (.b x1))
noncomputable def Af:Nat→List MV→Option MV:=bQ 60 (eY nr) (fun _ _=>none)
theorem yW:aC Try.prog cx Af:=qQ (aC.none _ _) [] 21 [(4,⟨[0,3],[],[],[(0,[(20,.sc (.k .b))])],[]⟩)] [] [(2,⟨[0],[],[(3,.sc (.k (.i .i64)))],[(1,[(2,.sc (.k .b))]),(2,[])],[]⟩)] Try.func60 (by kernel_rfl) (bH (fun _=>by kernel_rfl))
noncomputable def vW (a:MV):Option MV:=
 gA a fun cs=>
 bh .i64 .i64 .i64 .i64 .i64 cs fun SF ST Me View Has At Value Proof b6=>
 bd (
 ba (decide ((Value.length:Int)≤6100)) (
 bd (nr (.list Proof)) fun rA=>
 gB rA fun x=>
 ba x (
 bd (nr (.list b6)) fun bL=>
 gB bL fun x1=>
 some [.b x1]) (
 some [.b false])) (
 some [.b false])) fun vs=>
 gC vs fun m9 mG=>
 gB m9 fun x2=>
 gN mG<|
 some (.b x2)
noncomputable def GR:Nat→List MV→Option MV:=bQ 11 (eY vW) Af
theorem De:aC Try.prog cx GR:=qQ yW [] 18 [(1,⟨[1],[],[],[(0,[(2,.sc (.k .b))])],[]⟩)] [] [] Try.func11 (by kernel_rfl) (bH (fun _=>by kernel_rfl))
noncomputable def jv (sA:MV):Option MV:=
 gA sA fun cs=>
 rj .i64 .i64 cs fun F T=>
 some (.raw (.complex .f64 (FloatKind.nearest .f64 F) (FloatKind.nearest .f64 T)))
noncomputable def rk:Nat→List MV→Option MV:=bQ 111 (eY jv) GR
theorem s4:aC Try.prog cx rk:=qQ De [] 10 [] [] [] Try.func111 (by kernel_rfl) (bH (fun _=>by kernel_rfl))
noncomputable def fw (sA times:MV):Option MV:=
 gA sA fun cs=>
 rj .i64 .i64 cs fun F T=>
 gR times fun Ly=>
 bd (jv (.agg [.i .i64 F,.i .i64 T])) fun rA=>
 gR rA fun x=>
 Ms x fun re im=>
 Ms Ly fun re1 im1=>
 bd (FloatKind.f64.format.mul re re1) fun f=>
 Ms x fun re2 im2=>
 Ms Ly fun re3 im3=>
 bd (FloatKind.f64.format.mul im2 im3) fun f1=>
 bd (FloatKind.f64.format.add f f1) fun f2=>
 bd ((FloatKind.decode .f64 f2).toInt .zero) fun n=>
 b9 (decide (IntKind.min .i64≤n∧n≤IntKind.max .i64))<|
 some (.i .i64 (IntKind.wrap .i64 (n+1)))
noncomputable def vf:Nat→List MV→Option MV:=bQ 91 (lD fw) rk
theorem vA:aC Try.prog cx vf:=qQ s4 [] 21 [] [] [] Try.func91 (by kernel_rfl) (cU (fun _ _=>by kernel_rfl))
noncomputable def um (sA:MV):Option MV:=
 gA sA fun cs=>
 rj .i64 .i64 cs fun F T=>
 bd (fw (.agg [.i .i64 F,.i .i64 T]) (.raw (.complex .f64 4613937818241073152 4611686018427387904))) fun rA=>
 gI .i64 rA fun x=>
 some (.i .i64 x)
noncomputable def Lz:Nat→List MV→Option MV:=bQ 45 (eY um) vf
theorem Fu:aC Try.prog cx Lz:=qQ vA [] 5 [] [] [] Try.func45 (by kernel_rfl) (bH (fun _=>by kernel_rfl))
noncomputable def gy (sA:MV):Option MV:=
 gA sA fun cs=>
 rj .i64 .i64 cs fun F T=>
 bd (
 ba (decide ((1:Int)≤F)) (
 ba (decide (F≤5)) (
 ba (decide ((0:Int)≤T)) (
 some [.b (decide (T≤F))]) (
 some [.b false])) (
 some [.b false])) (
 some [.b false])) fun vs=>
 gC vs fun m2 jh=>
 gB m2 fun x=>
 gN jh<|
 some (.b x)
noncomputable def xw:Nat→List MV→Option MV:=bQ 61 (eY gy) Lz
theorem xx:aC Try.prog cx xw:=qQ Fu [] 23 [(1,⟨[1],[],[],[(0,[(2,.sc (.k .b))])],[]⟩)] [] [] Try.func61 (by kernel_rfl) (bH (fun _=>by kernel_rfl))
noncomputable def iB (sA me:MV):Option MV:=
 gA sA fun cs=>
 rj .i64 .i64 cs fun F T=>
 gI .i64 me fun Mp=>
 bd (
 bd (gy (.agg [.i .i64 F,.i .i64 T])) fun rA=>
 gB rA fun x=>
 ba (!x) (
 some [.b true]) (
 ba (decide (Mp<0)) (
 some [.b true]) (
 bd (um (.agg [.i .i64 F,.i .i64 T])) fun bL=>
 gI .i64 bL fun x1=>
 some [.b (decide (x1≤Mp))]))) fun vs=>
 gC vs fun m2 jh=>
 gB m2 fun x2=>
 gN jh<|
 ba x2 (
 some (.cN [.agg (aI 0 0 0 0 false 0 ([]:List UInt8) ([]:List MV) ([]:List MV)),.i .i64 1])) (
 some (.cN [.agg (aI F T Mp 0 false 0 ([]:List UInt8) ([]:List MV) ([]:List MV)),.i .i64 0]))
noncomputable def s5:Nat→List MV→Option MV:=bQ 13 (lD iB) xw
theorem uo:aC Try.prog cx s5:=qQ xx [] 23 [(1,⟨[1,2,4],[],[],[(0,[(18,.sc (.k .b))])],[]⟩)] [] [] Try.func13 (by kernel_rfl) (cU (fun _ _=>by kernel_rfl))
noncomputable def jx (a:MV):Option MV:=
 gA a fun cs=>
 bh .i64 .i64 .i64 .i64 .i64 cs fun SF ST Me View Has At Value Proof b6=>
 some (.agg (qA Me View Has At Value Proof))
noncomputable def rl:Nat→List MV→Option MV:=bQ 22 (eY jx) s5
theorem s6:aC Try.prog cx rl:=qQ uo [] 16 [] [] [] Try.func22 (by kernel_rfl) (bH (fun _=>by kernel_rfl))
noncomputable def iC (a view:MV):Option MV:=
 gA a fun cs=>
 bh .i64 .i64 .i64 .i64 .i64 cs fun SF ST Me View Has At Value Proof b6=>
 gI .i64 view fun iD=>
 bd (
 ba (decide (iD≤View)) (
 some [.b true]) (
 some [.b (decide ((100000:Int)<iD))])) fun vs=>
 gC vs fun m9 mG=>
 gB m9 fun x=>
 gN mG<|
 ba x (
 some (.cN [.agg (aI SF ST Me View Has At Value Proof b6),.agg (qA 0 0 false 0 ([]:List UInt8) ([]:List MV)),.b false])) (
 bd (jx (.agg (aI SF ST Me iD Has At Value Proof ([]:List MV)))) fun rA=>
 gA rA fun jD=>
 mb .i64 .i64 .i64 jD fun By sX xy eU cX mH=>
 some (.cN [.agg (aI SF ST Me iD Has At Value Proof ([]:List MV)),.agg (qA By sX xy eU cX mH),.b true]))
noncomputable def pN:Nat→List MV→Option MV:=bQ 52 (lD iC) rl
theorem rZ:aC Try.prog cx pN:=yG s6 [] [] 24 [] [] [] [(4,[0,1,2,3,4,5])] [(1,⟨[1,2,4,5],[],[],[(0,[(14,.sc (.k .b))])],[]⟩)] [] [] [] Try.func52 (by kernel_rfl) (cU (fun _ _=>by kernel_rfl))
noncomputable def qB (sA:MV):Option MV:=
 gA sA fun cs=>
 rj .i64 .i64 cs fun F T=>
 bd (fw (.agg [.i .i64 F,.i .i64 T]) (.raw (.complex .f64 4611686018427387904 4611686018427387904))) fun rA=>
 gI .i64 rA fun x=>
 some (.i .i64 x)
noncomputable def Ag:Nat→List MV→Option MV:=bQ 129 (eY qB) pN
theorem yX:aC Try.prog cx Ag:=qQ rZ [] 5 [] [] [] Try.func129 (by kernel_rfl) (bH (fun _=>by kernel_rfl))
noncomputable def oq (sA:MV):Option MV:=
 gA sA fun cs=>
 rj .i64 .i64 cs fun F T=>
 bd (fw (.agg [.i .i64 F,.i .i64 T]) (.raw (.complex .f64 4611686018427387904 4607182418800017408))) fun rA=>
 gI .i64 rA fun x=>
 some (.i .i64 x)
noncomputable def xz:Nat→List MV→Option MV:=bQ 46 (eY oq) Ag
theorem xA:aC Try.prog cx xz:=qQ yX [] 5 [] [] [] Try.func46 (by kernel_rfl) (bH (fun _=>by kernel_rfl))
noncomputable def qC (a:MV):Option MV:=
 gA a fun cs=>
 eZ .i64 .i64 cs fun By View Value=>
 bd (
 ba (decide ((0:Int)≤By)) (
 ba (decide ((0:Int)≤View)) (
 ba (decide (View≤100000)) (
 some [.b (decide ((Value.length:Int)≤6000))]) (
 some [.b false])) (
 some [.b false])) (
 some [.b false])) fun vs=>
 gC vs fun m3 ot=>
 gB m3 fun x=>
 gN ot<|
 some (.b x)
noncomputable def Ah:Nat→List MV→Option MV:=bQ 96 (eY qC) xz
theorem yY:aC Try.prog cx Ah:=qQ xA [] 22 [(1,⟨[1],[],[],[(0,[(2,.sc (.k .b))])],[]⟩)] [] [] Try.func96 (by kernel_rfl) (bH (fun _=>by kernel_rfl))
noncomputable def mc (t:MV):Option MV:=
 gA t fun cs=>
 gC cs fun m vz=>
 gL m fun L=>
 gN vz<|
 bU L fun len=>
 bd (Loop (fun rY=>
 gC rY fun m1 jh=>
 gI .i64 m1 fun x=>
 gN jh<|
 ba (decide (x<(len:Int))) (
 idx L x fun y=>
 gA y fun jD=>
 eZ .i64 .i64 jD fun By View Value=>
 bd (
 bd (qC (.agg [.i .i64 By,.i .i64 View,.s Value])) fun rA=>
 gB rA fun x1=>
 ba (!x1) (
 some [.b true]) (
 ba (decide ((0:Int)<x)) (
 idx L (IntKind.wrap .i64 (x-1)) fun y1=>
 gA y1 fun nK=>
 eZ .i64 .i64 nK fun D9 eU cX=>
 some [.b (decide (By≤D9))]) (
 some [.b false]))) fun vs=>
 gC vs fun m8 mG=>
 gB m8 fun x2=>
 gN mG<|
 ba x2 (
 some (.inr (1,[.b false]))) (
 some (.inl [.i .i64 (IntKind.wrap .i64 (x+1))]))) (
 some (.inr (2,[])))) [.i .i64 0]) fun p=>
 ba (Nat.beq p.1 2) (
 gN p.2<|
 some (.b true)) (
 b9 (Nat.beq p.1 1)<|
 gC p.2 fun m9 nt=>
 gB m9 fun x3=>
 gN nt<|
 some (.b x3))
noncomputable def vg:Nat→List MV→Option MV:=bQ 66 (eY mc) Ah
theorem vB:aC Try.prog cx vg:=yG yY [] [] 33 [] [] [] [(4,[0,1,2,3,4,5,6,7,8,9,10,11,12,13,14,15,16,17,18])] [(4,⟨[1,3,4,6,7,8],[],[],[(0,[(31,.sc (.k .b))])],[]⟩)] [] [(2,⟨[1,6,7],[],[(8,.sc (.k (.i .i64)))],[(1,[(2,.sc (.k .b))]),(2,[])],[]⟩)] [] Try.func66 (by kernel_rfl) (bH (fun _=>by kernel_rfl))
noncomputable def kf (t view value:MV):Option MV:=
 gA t fun cs=>
 gC cs fun m vz=>
 gL m fun L=>
 gN vz<|
 gI .i64 view fun iD=>
 gS value fun lf=>
 bU L fun len=>
 bd (Loop (fun rY=>
 tJ .i64 rY fun out x=>
 ba (decide (x<(len:Int))) (
 idx L x fun y=>
 gA y fun jD=>
 eZ .i64 .i64 jD fun By View Value=>
 bd (
 ba (decide (View=iD)) (
 some [.b (decide (Value=lf))]) (
 some [.b false])) fun vs=>
 gC vs fun m6 BE=>
 gB m6 fun x1=>
 gN BE<|
 bd (
 ba x1 (
 bU out fun cR=>
 bU ([.agg [.i .i64 By,.i .i64 View,.s Value]]:List MV) fun ji=>
 b9 (decide ((cR+ji) *32≤2^46))<|
 some (0,[.list (out++([.agg [.i .i64 By,.i .i64 View,.s Value]]:List MV))])) (
 some (0,[.list out]))) fun p1=>
 b9 (Nat.beq p1.1 0)<|
 gC p1.2 fun m7 xB=>
 gL m7 fun Fv=>
 gN xB<|
 some (.inl [.list Fv,.i .i64 (IntKind.wrap .i64 (x+1))])) (
 some (.inr (2,[.list out])))) [.list ([]:List MV),.i .i64 0]) fun p=>
 b9 (Nat.beq p.1 2)<|
 gC p.2 fun m8 mG=>
 gL m8 fun Wt=>
 gN mG<|
 some (.list Wt)
noncomputable def s7:Nat→List MV→Option MV:=bQ 119 (Fl kf) vg
theorem uq:aC Try.prog cx s7:=yG vB [] [] 33 [29] [] [] [] [(5,⟨[1,2,7,9,11,12,13],[30],[],[(0,[(26,.sc (.k .b))])],[30]⟩)] [(6,⟨[1,2,9,11,12,13],[],[],[(0,[(7,.sc (.own 30 72 true))])],[30]⟩)] [(3,⟨[1,2,11,12],[],[(7,.sc (.own 30 72 true)),(13,.sc (.k (.i .i64)))],[(2,[(7,.sc (.own 30 72 true))])],[30]⟩)] [] Try.func119 (by kernel_rfl) (sW (fun _ _ _=>by kernel_rfl))
noncomputable def mf (t view value:MV):Option MV:=
 gA t fun cs=>
 gC cs fun m vz=>
 gL m fun L=>
 gN vz<|
 gI .i64 view fun iD=>
 gS value fun lf=>
 bd (kf (.agg [.list L]) (.i .i64 iD) (.s lf)) fun rA=>
 gL rA fun x=>
 bU x fun len=>
 some (.i .i64 (len:Int))
noncomputable def vh:Nat→List MV→Option MV:=bQ 110 (Fl mf) s7
theorem vC:aC Try.prog cx vh:=qQ uq [] 12 [] [] [] Try.func110 (by kernel_rfl) (sW (fun _ _ _=>by kernel_rfl))
noncomputable def jK (sA p:MV):Option MV:=
 gA sA fun cs=>
 rj .i64 .i64 cs fun F T=>
 gL p fun p1=>
 bd (
 bd (gy (.agg [.i .i64 F,.i .i64 T])) fun rA=>
 gB rA fun x=>
 ba (!x) (
 some [.b true]) (
 bU p1 fun len=>
 bd (oq (.agg [.i .i64 F,.i .i64 T])) fun bL=>
 gI .i64 bL fun x1=>
 ba (!decide ((len:Int)=x1)) (
 some [.b true]) (
 bd (mc (.agg [.list p1])) fun cL=>
 gB cL fun x2=>
 some [.b (!x2)]))) fun vs=>
 gC vs fun m2 jh=>
 gB m2 fun x3=>
 gN jh<|
 ba x3 (
 some (.b false)) (
 bd (
 bU p1 fun cR=>
 idx p1 (IntKind.wrap .i64 ((cR:Int)-1)) fun y=>
 gA y fun jD=>
 eZ .i64 .i64 jD fun By View Value=>
 bd (um (.agg [.i .i64 F,.i .i64 T])) fun cZ=>
 gI .i64 cZ fun x4=>
 ba (decide (By<x4)) (
 idx p1 0 fun y1=>
 gA y1 fun nK=>
 eZ .i64 .i64 nK fun D9 eU cX=>
 idx p1 0 fun y2=>
 gA y2 fun jS=>
 eZ .i64 .i64 jS fun NO mg fR=>
 bU p1 fun ji=>
 bd (mf (.agg [.list p1]) (.i .i64 eU) (.s fR)) fun nh=>
 gI .i64 nh fun x5=>
 some [.b (decide (x5=(ji:Int)))]) (
 some [.b false])) fun iL=>
 gC iL fun LA pO=>
 gB LA fun x6=>
 gN pO<|
 some (.b x6))
noncomputable def vi:Nat→List MV→Option MV:=bQ 88 (lD jK) vh
theorem vD:aC Try.prog cx vi:=yG vC [] [] 47 [] [] [] [(3,[0,1,2,3,4,5,6,7,8,9,10,11,12,13,14,15,16,17,18,19,20,22,23,21,24,25,26])] [(3,⟨[1,2],[],[],[(0,[(4,.sc (.k .b))])],[]⟩),(1,⟨[1,2],[],[],[(0,[(20,.sc (.k .b))])],[]⟩)] [] [] [] Try.func88 (by kernel_rfl) (cU (fun _ _=>by kernel_rfl))
noncomputable def pP (p:MV):Option MV:=
 gL p fun p1=>
 bU p1 fun len=>
 ba (decide ((len:Int)=0)) (
 some (.cN [.i .i64 (-1),.s ([]:List UInt8),.b false])) (
 idx p1 0 fun y=>
 gA y fun cs=>
 eZ .i64 .i64 cs fun By View Value=>
 idx p1 0 fun y1=>
 gA y1 fun jD=>
 eZ .i64 .i64 jD fun D9 eU cX=>
 some (.cN [.i .i64 View,.s cX,.b true]))
noncomputable def Df:Nat→List MV→Option MV:=bQ 80 (eY pP) vi
theorem BF:aC Try.prog cx Df:=yG vD [] [] 16 [] [] [] [(3,[0,1,2,3,4,5,6,7,8,9,10])] [] [] [] [] Try.func80 (by kernel_rfl) (bH (fun _=>by kernel_rfl))
noncomputable def gb (rA:MV):Option MV:=
 gA rA fun cs=>
 mb .i64 .i64 .i64 cs fun By sX Has View Value Proof=>
 bd (pP (.list Proof)) fun bL=>
 gT bL fun vs=>
 gC vs fun m6 Lx=>
 gI .i64 m6 fun x=>
 gC Lx fun m7 BE=>
 gS m7 fun x1=>
 gC BE fun m8 xB=>
 gB m8 fun x2=>
 gN xB<|
 ba (!x2) (
 some (.i .i64 (-1))) (
 some (.i .i64 x))
noncomputable def rm:Nat→List MV→Option MV:=bQ 131 (eY gb) Df
theorem s8:aC Try.prog cx rm:=qQ BF [] 16 [] [] [] Try.func131 (by kernel_rfl) (bH (fun _=>by kernel_rfl))
noncomputable def ou (a a1:MV):Option MV:=
 gA a fun cs=>
 rj .i64 .i64 cs fun F T=>
 gA a1 fun jD=>
 mb .i64 .i64 .i64 jD fun By sX Has View Value Proof=>
 bd (
 bd (gy (.agg [.i .i64 F,.i .i64 T])) fun rA=>
 gB rA fun x=>
 ba (!x) (
 some [.b true]) (
 ba (decide (By<0)) (
 some [.b true]) (
 bd (um (.agg [.i .i64 F,.i .i64 T])) fun bL=>
 gI .i64 bL fun x1=>
 ba (decide (x1≤By)) (
 some [.b true]) (
 ba (decide (sX<1)) (
 some [.b true]) (
 some [.b (decide ((100000:Int)<sX))]))))) fun vs=>
 gC vs fun m8 xB=>
 gB m8 fun x2=>
 gN xB<|
 ba x2 (
 some (.b false)) (
 bd (
 ba (!Has) (
 ba (!decide (View=0)) (
 some [.b true]) (
 some [.b (!decide (Value=([]:List UInt8)))])) (
 some [.b false])) fun iL=>
 gC iL fun m9 mG=>
 gB m9 fun x3=>
 gN mG<|
 ba x3 (
 some (.b false)) (
 bd (
 ba Has (
 ba (decide (View<0)) (
 some [.b true]) (
 ba (decide (sX≤View)) (
 some [.b true]) (
 some [.b (decide ((6000:Int)<(Value.length:Int)))]))) (
 some [.b false])) fun o7=>
 gC o7 fun NP nt=>
 gB NP fun x4=>
 gN nt<|
 ba x4 (
 some (.b false)) (
 bd (
 bU Proof fun len=>
 ba (decide ((len:Int)=0)) (
 some [.b true]) (
 bd (jK (.agg [.i .i64 F,.i .i64 T]) (.list Proof)) fun cL=>
 gB cL fun x5=>
 ba x5 (
 bd (gb (.agg (qA By sX Has View Value Proof))) fun cZ=>
 gI .i64 cZ fun x6=>
 some [.b (decide (x6<sX))]) (
 some [.b false]))) fun Ia=>
 gC Ia fun LB xC=>
 gB LB fun x7=>
 gN xC<|
 some (.b x7))))
noncomputable def xD:Nat→List MV→Option MV:=bQ 130 (lD ou) rm
theorem xE:aC Try.prog cx xD:=yG s8 [] [] 83 [] [] [] [(1,[0,1,2,3,4,5,6,7,8,9,10,11,12,13,14,15,16,17,18,19,20,21,22,23,24,25]),(7,[0,1,2,3,4,5,6,7,8,9,10,12,13,11,14,15,16,17])] [(7,⟨[2,3],[],[],[(0,[(4,.sc (.k .b))])],[]⟩),(5,⟨[2,3],[],[],[(0,[(45,.sc (.k .b))])],[]⟩),(3,⟨[2,3],[],[],[(0,[(31,.sc (.k .b))])],[]⟩),(1,⟨[2,3],[],[],[(0,[(5,.sc (.k .b))])],[]⟩)] [] [] [] Try.func130 (by kernel_rfl) (cU (fun _ _=>by kernel_rfl))
noncomputable def kg (sA view lA:MV):Option MV:=
 gA sA fun cs=>
 rj .i64 .i64 cs fun F T=>
 gI .i64 view fun iD=>
 gL lA fun NN=>
 bd (
 bd (gy (.agg [.i .i64 F,.i .i64 T])) fun rA=>
 gB rA fun x=>
 ba (!x) (
 some [.b true]) (
 bU NN fun len=>
 bd (qB (.agg [.i .i64 F,.i .i64 T])) fun bL=>
 gI .i64 bL fun x1=>
 some [.b (!decide ((len:Int)=x1))])) fun vs=>
 gC vs fun m2 jh=>
 gB m2 fun x2=>
 gN jh<|
 ba x2 (
 some (.b false)) (
 bU NN fun cR=>
 bd (Loop (fun ot=>
 rj .i64 .i64 ot fun last x3=>
 ba (decide (x3<(cR:Int))) (
 idx NN x3 fun y=>
 gA y fun jD=>
 mb .i64 .i64 .i64 jD fun By sX Has View Value Proof=>
 bd (
 bd (ou (.agg [.i .i64 F,.i .i64 T]) (.agg (qA By sX Has View Value Proof))) fun cL=>
 gB cL fun x4=>
 ba (!x4) (
 some [.b true]) (
 ba (!decide (sX=iD)) (
 some [.b true]) (
 some [.b (decide (By≤last))]))) fun iL=>
 gC iL fun LB pO=>
 gB LB fun x5=>
 gN pO<|
 ba x5 (
 some (.inr (1,[.b false]))) (
 some (.inl [.i .i64 By,.i .i64 (IntKind.wrap .i64 (x3+1))]))) (
 some (.inr (2,[])))) [.i .i64 (-1),.i .i64 0]) fun p=>
 ba (Nat.beq p.1 2) (
 gN p.2<|
 some (.b true)) (
 b9 (Nat.beq p.1 1)<|
 gC p.2 fun LA xF=>
 gB LA fun x6=>
 gN xF<|
 some (.b x6)))
noncomputable def s9:Nat→List MV→Option MV:=bQ 112 (Fl kg) xD
theorem ur:aC Try.prog cx s9:=qQ xE [] 45 [(7,⟨[1,3,7,9,20,21,22],[],[],[(0,[(41,.sc (.k .b))])],[]⟩),(1,⟨[1,2,3],[],[],[(0,[(19,.sc (.k .b))])],[]⟩)] [] [(5,⟨[1,3,20,21],[],[(7,.sc (.k (.i .i64))),(22,.sc (.k (.i .i64)))],[(1,[(6,.sc (.k .b))]),(2,[])],[]⟩)] Try.func112 (by kernel_rfl) (sW (fun _ _ _=>by kernel_rfl))
noncomputable def ov (sA:MV):Option MV:=
 gA sA fun cs=>
 rj .i64 .i64 cs fun F T=>
 bd (fw (.agg [.i .i64 F,.i .i64 T]) (.raw (.complex .f64 4607182418800017408 4607182418800017408))) fun rA=>
 gI .i64 rA fun x=>
 some (.i .i64 x)
noncomputable def xG:Nat→List MV→Option MV:=bQ 132 (eY ov) s9
theorem xH:aC Try.prog cx xG:=qQ ur [] 5 [] [] [] Try.func132 (by kernel_rfl) (bH (fun _=>by kernel_rfl))
noncomputable def kh (a a1:MV):Option MV:=
 gA a fun cs=>
 rj .i64 .i64 cs fun F T=>
 gL a1 fun nu=>
 bU nu fun len=>
 bd (Loop (fun jh=>
 gC jh fun m2 ot=>
 gI .i64 m2 fun x=>
 gC ot fun m3 xI=>
 gS m3 fun x1=>
 gC xI fun m4 Lw=>
 gI .i64 m4 fun x2=>
 gN Lw<|
 ba (decide (x2<(len:Int))) (
 idx nu x2 fun y=>
 gA y fun jD=>
 mb .i64 .i64 .i64 jD fun By sX Has View Value Proof=>
 bd (gb (.agg (qA By sX Has View Value Proof))) fun rA=>
 gI .i64 rA fun x3=>
 bd (
 ba (decide (x<x3)) (
 idx Proof 0 fun y1=>
 gA y1 fun nK=>
 eZ .i64 .i64 nK fun D9 eU cX=>
 some (0,[.i .i64 x3,.s cX])) (
 some (0,[.i .i64 x,.s x1]))) fun p1=>
 b9 (Nat.beq p1.1 0)<|
 gC p1.2 fun Ty xJ=>
 gI .i64 Ty fun x4=>
 gC xJ fun LC pQ=>
 gS LC fun x5=>
 gN pQ<|
 some (.inl [.i .i64 x4,.s x5,.i .i64 (IntKind.wrap .i64 (x2+1))])) (
 some (.inr (2,[.i .i64 x,.s x1])))) [.i .i64 (-1),.s ([]:List UInt8),.i .i64 0]) fun p=>
 b9 (Nat.beq p.1 2)<|
 gC p.2 fun NQ ta=>
 gI .i64 NQ fun x6=>
 gC ta fun LD nv=>
 gS LD fun x7=>
 gN nv<|
 bU nu fun cR=>
 bd (Loop (fun pR=>
 tJ .i64 pR fun es x8=>
 ba (decide (x8<(cR:Int))) (
 idx nu x8 fun y2=>
 gA y2 fun jS=>
 mb .i64 .i64 .i64 jS fun NO aaL xy mg fR mH=>
 bd (
 ba xy (
 some [.b (decide (x6<mg))]) (
 some [.b false])) fun vs=>
 gC vs fun QE LF=>
 gB QE fun x9=>
 gN LF<|
 bd (
 ba x9 (
 some (0,[.list (rF (jZ es ([.s fR]:List MV) (.i .i64 0)) (cF es ([.s fR]:List MV)) (.i .i64 (IntKind.wrap .i64 ((oN es ([.s fR]:List MV))+1))))])) (
 some (0,[.list es]))) fun p3=>
 b9 (Nat.beq p3.1 0)<|
 gC p3.2 fun Wu Dg=>
 gL Wu fun Ui=>
 gN Dg<|
 some (.inl [.list Ui,.i .i64 (IntKind.wrap .i64 (x8+1))])) (
 some (.inr (4,[.list es])))) [.list ([]:List MV),.i .i64 0]) fun p2=>
 b9 (Nat.beq p2.1 4)<|
 gC p2.2 fun Wv LG=>
 gL Wv fun PP=>
 gN LG<|
 bd (mD (fun H8=>C6 H8 fun key n=>
 bd (ov (.agg [.i .i64 F,.i .i64 T])) fun bL=>
 gI .i64 bL fun Fw=>
 ba (decide (Fw≤n)) (
 some (.inr (1,[.s key,.b true]))) (
 some (.inl ()))) (
 some (6,[])) PP) fun p4=>
 ba (Nat.beq p4.1 6) (
 gN p4.2<|
 some (.cN [.s x7,.b (decide (((-1):Int)<x6))])) (
 b9 (Nat.beq p4.1 1)<|
 gC p4.2 fun Ww LH=>
 gS Ww fun Ib=>
 gC LH fun Wx Dh=>
 gB Wx fun Ic=>
 gN Dh<|
 some (.cN [.s Ib,.b Ic]))
noncomputable def tc:Nat→List MV→Option MV:=bQ 113 (lD kh) xG
theorem uu:aC Try.prog cx tc:=UA xH [] [] 70 [] [] [] [(7,[0,1,2,3,4,5,6,7])] [(13,⟨[2,6,7,11,13,35,36,37],[],[],[(0,[(48,.sc (.k .b))])],[]⟩)] [(14,⟨[2,6,7,13,35,36,37],[],[],[(0,[(11,.mp ⟨false,[.s],false⟩)])],[]⟩),(7,⟨[1,2,9,10,16,17,18],[],[],[(0,[(6,.sc (.k (.i .i64))),(7,.sc (.k .s))])],[]⟩)] [(17,⟨[2,6,7,11,56],[],[],[(1,[(4,.sc (.k .s)),(5,.sc (.k .b))]),(6,[])],[]⟩),(11,⟨[2,6,7,35,36],[],[(11,.mp ⟨false,[.s],false⟩),(37,.sc (.k (.i .i64)))],[(4,[(11,.mp ⟨false,[.s],false⟩)])],[]⟩),(3,⟨[1,2,16,17],[],[(6,.sc (.k (.i .i64))),(7,.sc (.k .s)),(18,.sc (.k (.i .i64)))],[(2,[(6,.sc (.k (.i .i64))),(7,.sc (.k .s))])],[]⟩)] [] Try.func113 (by kernel_rfl) (cU (fun _ _=>by kernel_rfl))
noncomputable def iF (sA view lA value:MV):Option MV:=
 gA sA fun cs=>
 rj .i64 .i64 cs fun F T=>
 gI .i64 view fun iD=>
 gL lA fun NN=>
 gS value fun lf=>
 bd (kg (.agg [.i .i64 F,.i .i64 T]) (.i .i64 iD) (.list NN)) fun rA=>
 gB rA fun x=>
 ba (!x) (
 some (.b false)) (
 bd (kh (.agg [.i .i64 F,.i .i64 T]) (.list NN)) fun bL=>
 gT bL fun vs=>
 gC vs fun m2 jh=>
 gS m2 fun x1=>
 gC jh fun m3 ot=>
 gB m3 fun x2=>
 gN ot<|
 bd (
 ba (!x2) (
 some [.b true]) (
 some [.b (decide (x1=lf))])) fun iL=>
 gC iL fun m4 xI=>
 gB m4 fun x3=>
 gN xI<|
 some (.b x3))
noncomputable def pS:Nat→List MV→Option MV:=bQ 93 (NE iF) tc
theorem r6:aC Try.prog cx pS:=qQ uu [] 29 [(4,⟨[3,9,10],[],[],[(0,[(8,.sc (.k .b))])],[]⟩)] [] [] Try.func93 (by kernel_rfl) (GL (fun _ _ _ _=>by kernel_rfl))
noncomputable def dX (a view value rX:MV):Option MV:=
 gA a fun cs=>
 bh .i64 .i64 .i64 .i64 .i64 cs fun SF ST Me View Has At Value Proof b6=>
 gI .i64 view fun iD=>
 gS value fun lf=>
 gL rX fun OZ=>
 bd (
 ba (!decide (iD=View)) (
 some [.b true]) (
 ba Has (
 ba (decide (At=iD)) (
 some [.b true]) (
 some [.b (decide ((6000:Int)<(lf.length:Int)))])) (
 some [.b (decide ((6000:Int)<(lf.length:Int)))]))) fun vs=>
 gC vs fun m9 mG=>
 gB m9 fun x=>
 gN mG<|
 ba x (
 some (.cN [.agg (aI SF ST Me View Has At Value Proof b6),.agg [.i .i64 0,.i .i64 0,.s ([]:List UInt8)],.b false])) (
 bd (
 ba (decide (iD=0)) (
 bU OZ fun len=>
 some [.b (decide ((len:Int)=0))]) (
 some [.b false])) fun iL=>
 gC iL fun NP nt=>
 gB NP fun x1=>
 gN nt<|
 bd (
 ba x1 (
 some (0,[.i .i64 0,.i .i64 0,.i .i64 0,.i .i64 0,.b false,.i .i64 0,.s ([]:List UInt8),.list ([]:List MV),.list ([]:List MV),.i .i64 0,.i .i64 0,.s ([]:List UInt8)])) (
 bd (iF (.agg [.i .i64 SF,.i .i64 ST]) (.i .i64 iD) (.list OZ) (.s lf)) fun rA=>
 gB rA fun x2=>
 ba (!x2) (
 some (1,[.i .i64 SF,.i .i64 ST,.i .i64 Me,.i .i64 View,.b Has,.i .i64 At,.s Value,.list Proof,.list b6,.i .i64 0,.i .i64 0,.s ([]:List UInt8),.b false])) (
 some (0,[.i .i64 0,.i .i64 0,.i .i64 0,.i .i64 0,.b false,.i .i64 0,.s ([]:List UInt8),.list ([]:List MV),.list ([]:List MV),.i .i64 0,.i .i64 0,.s ([]:List UInt8)])))) fun p=>
 ba (Nat.beq p.1 1) (
 gC p.2 fun LB xC=>
 gI .i64 LB fun x3=>
 gC xC fun LA pO=>
 gI .i64 LA fun x4=>
 gC pO fun m13 xF=>
 gI .i64 m13 fun x5=>
 gC xF fun Ty Tz=>
 gI .i64 Ty fun x6=>
 gC Tz fun LC xJ=>
 gB LC fun x7=>
 gC xJ fun NQ pQ=>
 gI .i64 NQ fun x8=>
 gC pQ fun LD ta=>
 gS LD fun x9=>
 gC ta fun QF nv=>
 gL QF fun Fw=>
 gC nv fun QG pR=>
 gL QG fun Ib=>
 gC pR fun Wy LI=>
 gI .i64 Wy fun Ic=>
 gC LI fun TA Di=>
 gI .i64 TA fun LJ=>
 gC Di fun Wz TB=>
 gS Wz fun IZ=>
 gC TB fun TD xK=>
 gB TD fun Mq=>
 gN xK<|
 some (.cN [.agg (aI x3 x4 x5 x6 x7 x8 x9 Fw Ib),.agg [.i .i64 Ic,.i .i64 LJ,.s IZ],.b Mq])) (
 b9 (Nat.beq p.1 0)<|
 gC p.2 fun m24 TE=>
 gI .i64 m24 fun QH=>
 gC TE fun TF xL=>
 gI .i64 TF fun GS=>
 gC xL fun QE Dj=>
 gI .i64 QE fun WA=>
 gC Dj fun Wu LL=>
 gI .i64 Wu fun WB=>
 gC LL fun Wv LF=>
 gB Wv fun x20=>
 gC LF fun H8 Dg=>
 gI .i64 H8 fun x21=>
 gC Dg fun Ww LG=>
 gS Ww fun x22=>
 gC LG fun Wx LH=>
 gL Wx fun x23=>
 gC LH fun m32 Dh=>
 gL m32 fun x24=>
 eZ .i64 .i64 Dh fun x25 x26 x27=>
 some (.cN [.agg (aI SF ST Me View true iD lf Proof b6),.agg [.i .i64 Me,.i .i64 iD,.s lf],.b true])))
noncomputable def nw:Nat→List MV→Option MV:=bQ 54 (NE dX) pS
theorem pT:aC Try.prog cx nw:=yG r6 [] [] 62 [] [58] [(7,[4])] [(7,[0,1,2,3,4,5,6,7,8])] [(3,⟨[1,2,3,4,8,9],[],[],[(0,[(33,.sc (.k .b))])],[]⟩),(1,⟨[1,2,3,4,8,9],[],[],[(0,[(11,.sc (.k .b))])],[]⟩)] [(4,⟨[1,2,3,4],[],[],[(0,[(8,.box [.k (.i .i64),.k (.i .i64),.k (.i .i64),.k (.i .i64),.k .b,.k (.i .i64),.k .s,.k .l,.k .l]),(9,.box [.k (.i .i64),.k (.i .i64),.k .s])]),(1,[(8,.box [.k (.i .i64),.k (.i .i64),.k (.i .i64),.k (.i .i64),.k .b,.k (.i .i64),.k .s,.k .l,.k .l]),(9,.box [.k (.i .i64),.k (.i .i64),.k .s]),(10,.sc (.k .b))])],[]⟩)] [] [] Try.func54 (by kernel_rfl) (GL (fun _ _ _ _=>by kernel_rfl))
noncomputable def ny:Option MV:=
 bd (iB (.agg [.i .i64 1,.i .i64 0]) (.i .i64 2)) fun rA=>
 gT rA fun vs=>
 gC vs fun m vz=>
 gA m fun cs=>
 bh .i64 .i64 .i64 .i64 .i64 cs fun SF ST Me View Has At Value Proof b6=>
 gC vz fun NP nt=>
 gI .i64 NP fun x=>
 gN nt<|
 bd (dX (.agg (aI SF ST Me View Has At Value Proof b6)) (.i .i64 0) (.s ([120]:List UInt8)) (.list ([]:List MV))) fun bL=>
 gT bL fun iL=>
 gC iL fun LB xC=>
 gA LB fun jD=>
 bh .i64 .i64 .i64 .i64 .i64 jD fun QI QJ QK eU xy QL cX mH ox=>
 gC xC fun TA Di=>
 gA TA fun nK=>
 eZ .i64 .i64 nK fun By mg fR=>
 gC Di fun TF xL=>
 gB TF fun x1=>
 gN xL<|
 bd (dX (.agg (aI QI QJ QK eU xy QL cX mH ox)) (.i .i64 0) (.s ([121]:List UInt8)) (.list ([]:List MV))) fun cL=>
 gT cL fun o7=>
 gC o7 fun QE Dj=>
 gA QE fun jS=>
 bh .i64 .i64 .i64 .i64 .i64 jS fun WC WD WE Dk QM WG uv Fx BG=>
 gC Dj fun m36 TG=>
 gA m36 fun QN=>
 eZ .i64 .i64 QN fun D9 GU Fy=>
 gC TG fun m40 TH=>
 gB m40 fun x2=>
 gN TH<|
 bd (iC (.agg (aI QI QJ QK eU xy QL cX mH ox)) (.i .i64 3)) fun cZ=>
 gT cZ fun Ia=>
 gC Ia fun m41 TJ=>
 gA m41 fun WH=>
 bh .i64 .i64 .i64 .i64 .i64 WH fun Ys Yt Yu LM TL Yv LN LO GV=>
 gC TJ fun m51 TM=>
 gA m51 fun WI=>
 mb .i64 .i64 .i64 WI fun NO sX TN O0 Fz LP=>
 gC TM fun m58 TP=>
 gB m58 fun x3=>
 gN TP<|
 bd (
 ba (decide (x=0)) (
 ba x1 (
 ba (!x2) (
 ba x3 (
 ba (decide (By=2)) (
 ba (decide (fR=([120]:List UInt8))) (
 ba (decide (LM=3)) (
 ba (decide (sX=3)) (
 some [.b (decide (Fz=([120]:List UInt8)))]) (
 some [.b false])) (
 some [.b false])) (
 some [.b false])) (
 some [.b false])) (
 some [.b false])) (
 some [.b false])) (
 some [.b false])) (
 some [.b false])) fun NR=>
 gC NR fun m59 TQ=>
 gB m59 fun x4=>
 gN TQ<|
 some (.b x4)
noncomputable def Ai:Nat→List MV→Option MV:=bQ 12 (QA ny) nw
theorem yZ:aC Try.prog cx Ai:=qQ pT [] 71 [(5,⟨[2,3,4,7,8,9,10],[],[],[(0,[(0,.sc (.k .b))])],[]⟩)] [] [] Try.func12 (by kernel_rfl) (NF (by kernel_rfl))
noncomputable def nz (sA:MV):Option MV:=
 gA sA fun cs=>
 rj .i64 .i64 cs fun F T=>
 bd (
 ba (decide ((1:Int)≤F)) (
 ba (decide (F≤5)) (
 ba (decide ((0:Int)≤T)) (
 some [.b (decide (T≤F))]) (
 some [.b false])) (
 some [.b false])) (
 some [.b false])) fun vs=>
 gC vs fun m2 jh=>
 gB m2 fun x=>
 gN jh<|
 some (.b x)
noncomputable def Aj:Nat→List MV→Option MV:=bQ 62 (eY nz) Ai
theorem y6:aC Try.prog cx Aj:=qQ yZ [] 23 [(1,⟨[1],[],[],[(0,[(2,.sc (.k .b))])],[]⟩)] [] [] Try.func62 (by kernel_rfl) (bH (fun _=>by kernel_rfl))
noncomputable def Ak (sA:MV):Option MV:=
 gA sA fun cs=>
 rj .i64 .i64 cs fun F T=>
 some (.i .i64 (IntKind.wrap .i64 ((IntKind.wrap .i64 ((IntKind.wrap .i64 (3 *F))+(IntKind.wrap .i64 (2 *T))))+1)))
noncomputable def O1:Nat→List MV→Option MV:=bQ 63 (eY Ak) Aj
theorem Ie:aC Try.prog cx O1:=qQ y6 [] 11 [] [] [] Try.func63 (by kernel_rfl) (bH (fun _=>by kernel_rfl))
noncomputable def td (sA me:MV):Option MV:=
 gA sA fun cs=>
 rj .i64 .i64 cs fun F T=>
 gI .i64 me fun Mp=>
 bd (
 bd (nz (.agg [.i .i64 F,.i .i64 T])) fun rA=>
 gB rA fun x=>
 ba (!x) (
 some [.b true]) (
 ba (decide (Mp<0)) (
 some [.b true]) (
 bd (Ak (.agg [.i .i64 F,.i .i64 T])) fun bL=>
 gI .i64 bL fun x1=>
 some [.b (decide (x1≤Mp))]))) fun vs=>
 gC vs fun m2 jh=>
 gB m2 fun x2=>
 gN jh<|
 ba x2 (
 some (.cN [.agg (aI 0 0 0 0 false 0 ([]:List UInt8) ([]:List MV) ([]:List MV)),.i .i64 1])) (
 some (.cN [.agg (aI F T Mp 0 false 0 ([]:List UInt8) ([]:List MV) ([]:List MV)),.i .i64 0]))
noncomputable def GW:Nat→List MV→Option MV:=bQ 14 (lD td) O1
theorem Dl:aC Try.prog cx GW:=qQ Ie [] 23 [(1,⟨[1,2,4],[],[],[(0,[(18,.sc (.k .b))])],[]⟩)] [] [] Try.func14 (by kernel_rfl) (cU (fun _ _=>by kernel_rfl))
noncomputable def nA (sA:MV):Option MV:=
 gA sA fun cs=>
 rj .i64 .i64 cs fun F T=>
 some (.agg [.i .i64 F,.i .i64 T])
noncomputable def Al:Nat→List MV→Option MV:=bQ 15 (eY nA) GW
theorem y7:aC Try.prog cx Al:=qQ Dl [] 8 [] [] [] Try.func15 (by kernel_rfl) (bH (fun _=>by kernel_rfl))
noncomputable def pU (a b:MV):Option MV:=
 gL a fun a1=>
 gL b fun b1=>
 bU a1 fun len=>
 bU b1 fun cR=>
 ba (!decide ((len:Int)=(cR:Int))) (
 some (.b false)) (
 bd (Loop (fun vz=>
 gC vz fun m rY=>
 gI .i64 m fun i=>
 gN rY<|
 bU a1 fun ji=>
 ba (decide (i<(ji:Int))) (
 idx a1 i fun y=>
 gA y fun cs=>
 eZ .i64 .i64 cs fun By View Value=>
 idx b1 i fun y1=>
 gA y1 fun jD=>
 eZ .i64 .i64 jD fun D9 eU cX=>
 ba (!((decide (By=D9))&&((decide (View=eU))&&(decide (Value=cX))))) (
 some (.inr (1,[.b false]))) (
 some (.inl [.i .i64 (IntKind.wrap .i64 (i+1))]))) (
 some (.inr (2,[])))) [.i .i64 0]) fun p=>
 ba (Nat.beq p.1 2) (
 gN p.2<|
 some (.b true)) (
 b9 (Nat.beq p.1 1)<|
 gC p.2 fun m7 xB=>
 gB m7 fun x=>
 gN xB<|
 some (.b x)))
noncomputable def Dm:Nat→List MV→Option MV:=bQ 58 (lD pU) Al
theorem BH:aC Try.prog cx Dm:=yG y7 [] [] 26 [] [] [] [(6,[0,1,2,3,4,5,6,7,8])] [] [] [(4,⟨[0,1],[],[(5,.sc (.k (.i .i64)))],[(1,[(4,.sc (.k .b))]),(2,[])],[]⟩)] [] Try.func58 (by kernel_rfl) (cU (fun _ _=>by kernel_rfl))
noncomputable def pV (a b:MV):Option MV:=
 gA a fun cs=>
 bh .i64 .i64 .i64 .i64 .i64 cs fun SF ST Me View Has At Value Proof b6=>
 gA b fun jD=>
 bh .i64 .i64 .i64 .i64 .i64 jD fun QI QJ QK eU xy QL cX mH ox=>
 bd (
 ba ((decide (SF=QI))&&(decide (ST=QJ))) (
 ba (decide (Me=QK)) (
 ba (decide (View=eU)) (
 ba (decide (Has=xy)) (
 ba (decide (At=QL)) (
 some [.b (decide (Value=cX))]) (
 some [.b false])) (
 some [.b false])) (
 some [.b false])) (
 some [.b false])) (
 some [.b false])) fun vs=>
 gC vs fun QF nv=>
 gB QF fun flat=>
 gN nv<|
 bd (
 ba flat (
 bd (pU (.list Proof) (.list mH)) fun rA=>
 gB rA fun x=>
 ba x (
 bd (pU (.list b6) (.list ox)) fun bL=>
 gB bL fun x1=>
 some [.b x1]) (
 some [.b false])) (
 some [.b false])) fun iL=>
 gC iL fun QG pR=>
 gB QG fun x2=>
 gN pR<|
 some (.b x2)
noncomputable def Dp:Nat→List MV→Option MV:=bQ 16 (lD pV) Dm
theorem BI:aC Try.prog cx Dp:=qQ BH [] 63 [(2,⟨[2,3,5],[],[],[(0,[(4,.sc (.k .b))])],[]⟩),(1,⟨[2,3],[],[],[(0,[(5,.sc (.k .b))])],[]⟩)] [] [] Try.func16 (by kernel_rfl) (cU (fun _ _=>by kernel_rfl))
noncomputable def gQ (a:MV):Option MV:=
 gA a fun cs=>
 bh .i64 .i64 .i64 .i64 .i64 cs fun SF ST Me View Has At Value Proof b6=>
 bd (nA (.agg [.i .i64 SF,.i .i64 ST])) fun rA=>
 gA rA fun jD=>
 rj .i64 .i64 jD fun F T=>
 some (.agg (aI F T Me View Has At Value Proof b6))
noncomputable def Am:Nat→List MV→Option MV:=bQ 17 (eY gQ) Dp
theorem y8:aC Try.prog cx Am:=yG BI [] [] 23 [] [] [] [(1,[0,1,3,4,5,6,7,8,9,10,11,12,13,14,15,16,17,18,2,19,20])] [] [] [] [] Try.func17 (by kernel_rfl) (bH (fun _=>by kernel_rfl))
noncomputable def dc (a:MV):Option MV:=
 gA a fun cs=>
 bh .i64 .i64 .i64 .i64 .i64 cs fun SF ST Me View Has At Value Proof b6=>
 bd (
 ba (decide (View<0)) (
 some [.b true]) (
 some [.b (decide ((100000:Int)<View))])) fun vs=>
 gC vs fun m9 mG=>
 gB m9 fun x=>
 gN mG<|
 ba x (
 some (.b false)) (
 bd (
 ba Has (
 ba (decide (At<0)) (
 some [.b true]) (
 ba (decide (View<At)) (
 some [.b true]) (
 some [.b (decide ((6000:Int)<(Value.length:Int)))]))) (
 some [.b false])) fun iL=>
 gC iL fun NP nt=>
 gB NP fun x1=>
 gN nt<|
 ba x1 (
 some (.b false)) (
 bd (
 ba (!Has) (
 ba (!decide (At=0)) (
 some [.b true]) (
 some [.b (!decide (Value=([]:List UInt8)))])) (
 some [.b false])) fun o7=>
 gC o7 fun LB xC=>
 gB LB fun x2=>
 gN xC<|
 ba x2 (
 some (.b false)) (
 bd (
 bU Proof fun len=>
 ba (decide ((len:Int)=0)) (
 some [.b true]) (
 bd (jK (.agg [.i .i64 SF,.i .i64 ST]) (.list Proof)) fun rA=>
 gB rA fun x3=>
 ba x3 (
 idx Proof 0 fun y=>
 gA y fun jD=>
 eZ .i64 .i64 jD fun By eU cX=>
 some [.b (decide (eU≤View))]) (
 some [.b false]))) fun Ia=>
 gC Ia fun LC xJ=>
 gB LC fun x4=>
 gN xJ<|
 some (.b x4))))
noncomputable def iG:Nat→List MV→Option MV:=bQ 65 (eY dc) Am
theorem lg:aC Try.prog cx iG:=yG y8 [] [] 68 [] [] [] [(7,[0,1,2,3,4,5,6,7,8,9,10,11,12,13,14,15,16,17,18,19,20,21])] [(7,⟨[1],[],[],[(0,[(2,.sc (.k .b))])],[]⟩),(5,⟨[1],[],[],[(0,[(33,.sc (.k .b))])],[]⟩),(3,⟨[1],[],[],[(0,[(12,.sc (.k .b))])],[]⟩),(1,⟨[1],[],[],[(0,[(3,.sc (.k .b))])],[]⟩)] [] [] [] Try.func65 (by kernel_rfl) (bH (fun _=>by kernel_rfl))
noncomputable def te (a:MV):Option MV:=
 gA a fun cs=>
 eZ .i64 .i64 cs fun By View Value=>
 bd (
 ba (decide ((0:Int)≤By)) (
 ba (decide ((0:Int)≤View)) (
 ba (decide (View≤100000)) (
 some [.b (decide ((Value.length:Int)≤6000))]) (
 some [.b false])) (
 some [.b false])) (
 some [.b false])) fun vs=>
 gC vs fun m3 ot=>
 gB m3 fun x=>
 gN ot<|
 some (.b x)
noncomputable def GX:Nat→List MV→Option MV:=bQ 85 (eY te) iG
theorem Dq:aC Try.prog cx GX:=qQ lg [] 22 [(1,⟨[1],[],[],[(0,[(2,.sc (.k .b))])],[]⟩)] [] [] Try.func85 (by kernel_rfl) (bH (fun _=>by kernel_rfl))
noncomputable def qD (t:MV):Option MV:=
 gA t fun cs=>
 gC cs fun m vz=>
 gL m fun L=>
 gN vz<|
 bd (Loop (fun rY=>
 gC rY fun m1 jh=>
 gI .i64 m1 fun i=>
 gN jh<|
 bU L fun len=>
 ba (decide (i<(len:Int))) (
 bd (
 idx L i fun y=>
 gA y fun jD=>
 eZ .i64 .i64 jD fun By View Value=>
 bd (te (.agg [.i .i64 By,.i .i64 View,.s Value])) fun rA=>
 gB rA fun x=>
 ba (!x) (
 some [.b true]) (
 ba (decide ((0:Int)<i)) (
 idx L (IntKind.wrap .i64 (i-1)) fun y1=>
 gA y1 fun nK=>
 eZ .i64 .i64 nK fun D9 eU cX=>
 idx L i fun y2=>
 gA y2 fun jS=>
 eZ .i64 .i64 jS fun NO mg fR=>
 some [.b (decide (NO≤D9))]) (
 some [.b false]))) fun vs=>
 gC vs fun LB pO=>
 gB LB fun x1=>
 gN pO<|
 ba x1 (
 some (.inr (1,[.b false]))) (
 some (.inl [.i .i64 (IntKind.wrap .i64 (i+1))]))) (
 some (.inr (2,[])))) [.i .i64 0]) fun p=>
 ba (Nat.beq p.1 2) (
 gN p.2<|
 some (.b true)) (
 b9 (Nat.beq p.1 1)<|
 gC p.2 fun LA xF=>
 gB LA fun x2=>
 gN xF<|
 some (.b x2))
noncomputable def An:Nat→List MV→Option MV:=bQ 67 (eY qD) GX
theorem y9:aC Try.prog cx An:=yG Dq [] [] 38 [] [] [] [(4,[0,1,2,3,4,5,6,7,8,9,10,11,12,13,14,15,16,17,18,19,20,21,22,23,24,25,26])] [(4,⟨[1,3],[],[],[(0,[(37,.sc (.k .b))])],[]⟩)] [] [(2,⟨[1],[],[(3,.sc (.k (.i .i64)))],[(1,[(2,.sc (.k .b))]),(2,[])],[]⟩)] [] Try.func67 (by kernel_rfl) (bH (fun _=>by kernel_rfl))
noncomputable def qE (sA:MV):Option MV:=
 gA sA fun cs=>
 rj .i64 .i64 cs fun F T=>
 some (.i .i64 (IntKind.wrap .i64 ((IntKind.wrap .i64 ((IntKind.wrap .i64 (2 *F))+T))+1)))
noncomputable def Ao:Nat→List MV→Option MV:=bQ 89 (eY qE) An
theorem za:aC Try.prog cx Ao:=qQ y9 [] 10 [] [] [] Try.func89 (by kernel_rfl) (bH (fun _=>by kernel_rfl))
noncomputable def qF (a a1:MV):Option MV:=
 gA a fun cs=>
 rj .i64 .i64 cs fun F T=>
 gL a1 fun nu=>
 bd (
 bd (nz (.agg [.i .i64 F,.i .i64 T])) fun rA=>
 gB rA fun x=>
 ba (!x) (
 some [.b true]) (
 bU nu fun len=>
 bd (qE (.agg [.i .i64 F,.i .i64 T])) fun bL=>
 gI .i64 bL fun x1=>
 some [.b (!decide ((len:Int)=x1))])) fun vs=>
 gC vs fun m2 jh=>
 gB m2 fun x2=>
 gN jh<|
 ba x2 (
 some (.b false)) (
 bd (Loop (fun ot=>
 gC ot fun m3 xI=>
 gI .i64 m3 fun x3=>
 gN xI<|
 bU nu fun cR=>
 ba (decide (x3<(cR:Int))) (
 idx nu x3 fun y=>
 gA y fun jD=>
 eZ .i64 .i64 jD fun By View Value=>
 bd (
 bd (te (.agg [.i .i64 By,.i .i64 View,.s Value])) fun cL=>
 gB cL fun x4=>
 ba (!x4) (
 some [.b true]) (
 bd (Ak (.agg [.i .i64 F,.i .i64 T])) fun cZ=>
 gI .i64 cZ fun x5=>
 ba (decide (x5≤By)) (
 some [.b true]) (
 idx nu 0 fun y1=>
 gA y1 fun nK=>
 eZ .i64 .i64 nK fun D9 eU cX=>
 ba (!decide (View=eU)) (
 some [.b true]) (
 idx nu 0 fun y2=>
 gA y2 fun jS=>
 eZ .i64 .i64 jS fun NO mg fR=>
 ba (!decide (Value=fR)) (
 some [.b true]) (
 ba (decide ((0:Int)<x3)) (
 idx nu (IntKind.wrap .i64 (x3-1)) fun y3=>
 gA y3 fun QN=>
 eZ .i64 .i64 QN fun By3 Dk uv=>
 some [.b (decide (By≤By3))]) (
 some [.b false])))))) fun iL=>
 gC iL fun NQ ta=>
 gB NQ fun x6=>
 gN ta<|
 ba x6 (
 some (.inr (1,[.b false]))) (
 some (.inl [.i .i64 (IntKind.wrap .i64 (x3+1))]))) (
 some (.inr (2,[])))) [.i .i64 0]) fun p=>
 ba (Nat.beq p.1 2) (
 gN p.2<|
 some (.b true)) (
 b9 (Nat.beq p.1 1)<|
 gC p.2 fun LD nv=>
 gB LD fun x7=>
 gN nv<|
 some (.b x7)))
noncomputable def Ap:Nat→List MV→Option MV:=bQ 68 (lD qF) Ao
theorem zb:aC Try.prog cx Ap:=yG za [] [] 70 [] [] [] [(7,[0,1,2,3,4,5,6,7,8,9,10,11,12,13,14,15,16,17,18,19,20,21,22,23,24,25,26,27,28,29,30,31,32,33,34,35,36,37,38,39,40,41,42])] [(7,⟨[1,2,5,6],[],[],[(0,[(69,.sc (.k .b))])],[]⟩),(1,⟨[1,2],[],[],[(0,[(16,.sc (.k .b))])],[]⟩)] [] [(4,⟨[1,2],[],[(5,.sc (.k (.i .i64)))],[(1,[(4,.sc (.k .b))]),(2,[])],[]⟩)] [] Try.func68 (by kernel_rfl) (cU (fun _ _=>by kernel_rfl))
noncomputable def nB (a:MV):Option MV:=
 gA a fun cs=>
 bh .i64 .i64 .i64 .i64 .i64 cs fun SF ST Me View Has At Value Proof b6=>
 bd (td (.agg [.i .i64 SF,.i .i64 ST]) (.i .i64 Me)) fun rA=>
 gT rA fun vs=>
 gC vs fun m9 mG=>
 gA m9 fun jD=>
 bh .i64 .i64 .i64 .i64 .i64 jD fun QI QJ QK eU xy QL cX mH ox=>
 gC mG fun QG pR=>
 gI .i64 QG fun x=>
 gN pR<|
 bd (
 ba (!decide (x=0)) (
 some [.b true]) (
 ba (decide (View<0)) (
 some [.b true]) (
 ba (decide ((100000:Int)<View)) (
 some [.b true]) (
 bd (qD (.agg [.list b6])) fun bL=>
 gB bL fun x1=>
 some [.b (!x1)])))) fun iL=>
 gC iL fun Wy LI=>
 gB Wy fun x2=>
 gN LI<|
 ba x2 (
 some (.b false)) (
 bd (
 ba Has (
 ba (decide (At<0)) (
 some [.b true]) (
 ba (decide (View<At)) (
 some [.b true]) (
 ba (decide ((6000:Int)<(Value.length:Int))) (
 some [.b true]) (
 ba (!Has) (
 ba (!decide (At=0)) (
 some [.b true]) (
 some [.b (!decide (Value=([]:List UInt8)))])) (
 some [.b false]))))) (
 ba (!Has) (
 ba (!decide (At=0)) (
 some [.b true]) (
 some [.b (!decide (Value=([]:List UInt8)))])) (
 some [.b false]))) fun o7=>
 gC o7 fun TA Di=>
 gB TA fun x3=>
 gN Di<|
 ba x3 (
 some (.b false)) (
 bd (
 bU Proof fun len=>
 ba (decide ((0:Int)<(len:Int))) (
 bd (qF (.agg [.i .i64 SF,.i .i64 ST]) (.list Proof)) fun cL=>
 gB cL fun x4=>
 ba (!x4) (
 some [.b true]) (
 idx Proof 0 fun y=>
 gA y fun nK=>
 eZ .i64 .i64 nK fun By mg fR=>
 some [.b (decide (View<mg))])) (
 some [.b false])) fun Ia=>
 gC Ia fun TF xL=>
 gB TF fun x5=>
 gN xL<|
 ba x5 (
 some (.b false)) (
 bd (Loop (fun Dj=>
 gC Dj fun QE LL=>
 gI .i64 QE fun x6=>
 gN LL<|
 bU b6 fun cR=>
 ba (decide (x6<(cR:Int))) (
 bd (
 idx b6 x6 fun y1=>
 gA y1 fun jS=>
 eZ .i64 .i64 jS fun D9 Dk uv=>
 bd (Ak (.agg [.i .i64 SF,.i .i64 ST])) fun cZ=>
 gI .i64 cZ fun x7=>
 ba (decide (x7≤D9)) (
 some [.b true]) (
 idx b6 x6 fun y2=>
 gA y2 fun QN=>
 eZ .i64 .i64 QN fun NO GU Fy=>
 some [.b (!decide (GU=View))])) fun NR=>
 gC NR fun m33 LQ=>
 gB m33 fun x8=>
 gN LQ<|
 ba x8 (
 some (.inr (1,[.b false]))) (
 some (.inl [.i .i64 (IntKind.wrap .i64 (x6+1))]))) (
 some (.inr (2,[])))) [.i .i64 0]) fun p=>
 ba (Nat.beq p.1 2) (
 gN p.2<|
 some (.b true)) (
 b9 (Nat.beq p.1 1)<|
 gC p.2 fun m34 TR=>
 gB m34 fun x9=>
 gN TR<|
 some (.b x9)))))
noncomputable def Aq:Nat→List MV→Option MV:=bQ 20 (eY nB) Ap
theorem zd:aC Try.prog cx Aq:=yG zb [] [] 120 [] [] [] [(6,[0,1,2,3,4,5,6,7,8,9,10,11,12,13,14,15,16,17,18,19,20,21]),(11,[0,1,2,3,4,5,6,7,8,9,10,11,12,13,14,15,16,17,18,19,20,21,22])] [(11,⟨[1,5],[],[],[(0,[(119,.sc (.k .b))])],[]⟩),(6,⟨[1],[],[],[(0,[(88,.sc (.k .b))])],[]⟩),(4,⟨[1],[],[],[(0,[(66,.sc (.k .b))])],[]⟩),(2,⟨[1,4],[],[],[(0,[(31,.sc (.k .b))])],[]⟩)] [] [(9,⟨[1],[],[(5,.sc (.k (.i .i64)))],[(1,[(2,.sc (.k .b))]),(2,[])],[]⟩)] [] Try.func20 (by kernel_rfl) (bH (fun _=>by kernel_rfl))
noncomputable def lh (b:MV):Option MV:=
 gL b fun b1=>
 bU b1 fun len=>
 ba (decide ((len:Int)=0)) (
 some (.cN [.i .u64 0,.list ([]:List MV),.i .i64 2])) (
 idx b1 0 fun y=>
 gI .u8 y fun x=>
 b9 (kE 1 b1)<|
 bU b1 fun cR=>
 b9 (decide ((0:Int)≤1∧(1:Int)≤(cR:Int)∧(cR:Int)≤(cR:Int)))<|
 bd (
 ba (decide ((8:Int)<(IntKind.wrap .i64 x))) (
 some [.b true]) (
 ba (decide ((0:Int)<(IntKind.wrap .i64 x))) (
 bU (List.drop (Int.toNat 1) (List.take (Int.toNat (cR:Int)) b1)) fun ji=>
 ba (decide ((0:Int)<(ji:Int))) (
 idx (List.drop (Int.toNat 1) (List.take (Int.toNat (cR:Int)) b1)) 0 fun y1=>
 gI .u8 y1 fun x1=>
 some [.b (decide (x1=0))]) (
 some [.b false])) (
 some [.b false]))) fun vs=>
 gC vs fun m vz=>
 gB m fun x2=>
 gN vz<|
 ba x2 (
 some (.cN [.i .u64 0,.list ([]:List MV),.i .i64 3])) (
 bU (List.drop (Int.toNat 1) (List.take (Int.toNat (cR:Int)) b1)) fun ze=>
 ba (decide ((ze:Int)<(IntKind.wrap .i64 x))) (
 some (.cN [.i .u64 0,.list ([]:List MV),.i .i64 2])) (
 bU (List.drop (Int.toNat 1) (List.take (Int.toNat (cR:Int)) b1)) fun QO=>
 b9 (decide ((0:Int)≤0∧(0:Int)≤(IntKind.wrap .i64 x)∧(IntKind.wrap .i64 x)≤(QO:Int)))<|
 bU (List.drop (Int.toNat 0) (List.take (Int.toNat (IntKind.wrap .i64 x)) (List.drop (Int.toNat 1) (List.take (Int.toNat (cR:Int)) b1)))) fun QP=>
 bd (Loop (fun rY=>
 rj .u64 .i64 rY fun n x3=>
 ba (decide (x3<(QP:Int))) (
 idx (List.drop (Int.toNat 0) (List.take (Int.toNat (IntKind.wrap .i64 x)) (List.drop (Int.toNat 1) (List.take (Int.toNat (cR:Int)) b1)))) x3 fun y2=>
 gI .u8 y2 fun x4=>
 b9 (decide ((0:Int)≤8))<|
 some (.inl [.i .u64 (O8 .u64 (IntKind.wrap .u64 (n *2^min (Int.toNat 8) (IntKind.bits .u64))) (IntKind.wrap .u64 x4)),.i .i64 (IntKind.wrap .i64 (x3+1))])) (
 some (.inr (3,[.i .u64 n])))) [.i .u64 0,.i .i64 0]) fun p=>
 b9 (Nat.beq p.1 3)<|
 gC p.2 fun m3 xI=>
 gI .u64 m3 fun n1=>
 gN xI<|
 b9 (kE 1 (List.drop (Int.toNat 1) (List.take (Int.toNat (cR:Int)) b1)))<|
 bU (List.drop (Int.toNat 1) (List.take (Int.toNat (cR:Int)) b1)) fun NS=>
 b9 (decide ((0:Int)≤(IntKind.wrap .i64 x)∧(IntKind.wrap .i64 x)≤(NS:Int)∧(NS:Int)≤(NS:Int)))<|
 some (.cN [.i .u64 n1,.list (List.drop (Int.toNat (IntKind.wrap .i64 x)) (List.take (Int.toNat (NS:Int)) (List.drop (Int.toNat 1) (List.take (Int.toNat (cR:Int)) b1)))),.i .i64 0]))))
noncomputable def xM:Nat→List MV→Option MV:=bQ 124 (eY lh) Aq
theorem xN:aC Try.prog cx xM:=yG zd [] [] 60 [] [] [] [(3,[0,1,2,3,4,5,6,7]),(14,[0,1,2,3,4,5,6])] [(4,⟨[5,6],[],[],[(0,[(19,.sc (.k .b))])],[]⟩)] [] [(10,⟨[5,6,44,45],[],[(7,.sc (.k (.i .u64))),(46,.sc (.k (.i .i64)))],[(3,[(7,.sc (.k (.i .u64)))])],[]⟩)] [] Try.func124 (by kernel_rfl) (bH (fun _=>by kernel_rfl))
noncomputable def jy (b:MV):Option MV:=
 gL b fun b1=>
 bd (lh (.list b1)) fun rA=>
 gT rA fun vs=>
 BD .u64 .i64 vs fun x x1 x2=>
 b9 (decide ((0:Int)≤1))<|
 some (.cN [.i .i64 (tN .i64 (IntKind.wrap .i64 (Int.fdiv x (2^min (Int.toNat 1) (IntKind.bits .u64)))) (IntKind.wrap .i64 (0-(IntKind.wrap .i64 (Ed .u64 x 1))))),.list x1,.i .i64 x2])
noncomputable def rn:Nat→List MV→Option MV:=bQ 102 (eY jy) xM
theorem tg:aC Try.prog cx rn:=qQ xN [] 24 [] [] [] Try.func102 (by kernel_rfl) (bH (fun _=>by kernel_rfl))
noncomputable def bR (t:List MV):Option MV:=
 tJ .i64 t fun b eA=>
 bd (
 ba (decide (eA=0)) (
 bd (jy (.list b)) fun rA=>
 gT rA fun vs=>
 BD .i64 .i64 vs fun x x1 x2=>
 some (0,[.i .i64 x,.list x1,.i .i64 x2])) (
 some (0,[.i .i64 0,.list b,.i .i64 eA]))) fun p=>
 b9 (Nat.beq p.1 0)<|
 BD .i64 .i64 p.2 fun n x3 x4=>
 some (.kD (.i .i64 n) [.list x3,.i .i64 x4])
noncomputable def li:Nat→List MV→Option MV:=bQ 71 (Tx bR) rn
theorem oz:aC Try.prog cx li:=Tg tg 0 Ae [] [(0,1000000)] 24 [] [] [] [] [] [(2,⟨[0],[],[],[(0,[(2,.sc (.k (.i .i64))),(1000000,.box [.k .l,.k (.i .i64)])])],[]⟩)] [] [] Try.func71 (by kernel_rfl) (by kernel_rfl) (Ft fun _=>by kernel_rfl)
noncomputable def iH (b most:MV):Option MV:=
 gL b fun b1=>
 gI .i64 most fun LR=>
 bd (lh (.list b1)) fun rA=>
 gT rA fun vs=>
 BD .u64 .i64 vs fun x x1 x2=>
 ba (!decide (x2=0)) (
 some (.cN [.s ([]:List UInt8),.list ([]:List MV),.i .i64 x2])) (
 ba (decide ((IntKind.wrap .u64 (imax LR 0))<x)) (
 some (.cN [.s ([]:List UInt8),.list ([]:List MV),.i .i64 5])) (
 bU x1 fun len=>
 ba (decide ((IntKind.wrap .u64 (len:Int))<x)) (
 some (.cN [.s ([]:List UInt8),.list ([]:List MV),.i .i64 2])) (
 bU x1 fun cR=>
 b9 (decide ((0:Int)≤0∧(0:Int)≤x∧x≤(cR:Int)))<|
 su (List.drop (Int.toNat 0) (List.take (Int.toNat x) x1)) fun bs=>
 b9 (kE 1 x1)<|
 bU x1 fun ji=>
 b9 (decide ((0:Int)≤x∧x≤(ji:Int)∧(ji:Int)≤(ji:Int)))<|
 some (.cN [.s bs,.list (List.drop (Int.toNat x) (List.take (Int.toNat (ji:Int)) x1)),.i .i64 0]))))
noncomputable def pW:Nat→List MV→Option MV:=bQ 103 (lD iH) li
theorem r7:aC Try.prog cx pW:=yG oz [] [] 39 [] [] [] [(8,[0,1,2,3,4,5,6,7,8,9])] [] [] [] [] Try.func103 (by kernel_rfl) (cU (fun _ _=>by kernel_rfl))
noncomputable def c9 (t:List MV):Option MV:=
 tJ .i64 t fun b eA=>
 bd (
 ba (decide (eA=0)) (
 bd (iH (.list b) (.i .i64 6000)) fun rA=>
 gT rA fun vs=>
 gC vs fun m2 jh=>
 gS m2 fun x=>
 tJ .i64 jh fun x1 x2=>
 some (0,[.s x,.list x1,.i .i64 x2])) (
 some (0,[.s ([]:List UInt8),.list b,.i .i64 eA]))) fun p=>
 b9 (Nat.beq p.1 0)<|
 gC p.2 fun m5 Lw=>
 gS m5 fun sA=>
 tJ .i64 Lw fun x3 x4=>
 some (.kD (.s sA) [.list x3,.i .i64 x4])
noncomputable def jV:Nat→List MV→Option MV:=bQ 72 (Tx c9) pW
theorem nC:aC Try.prog cx jV:=Tg r7 0 Ae [] [(0,1000000)] 24 [] [] [] [] [] [(2,⟨[0],[],[],[(0,[(2,.sc (.k .s)),(1000000,.box [.k .l,.k (.i .i64)])])],[]⟩)] [] [] Try.func72 (by kernel_rfl) (by kernel_rfl) (Ft fun _=>by kernel_rfl)
noncomputable def dC (t:List MV):Option MV:=
 tJ .i64 t fun b eA=>
 bd (bR [.list b,.i .i64 eA]) fun rA=>
 gW rA fun x ls=>
 tJ .i64 ls fun b1 WJ=>
 gI .i64 x fun x1=>
 bd (
 ba (decide (x1<0)) (
 some [.b true]) (
 some [.b (decide ((100:Int)<x1))])) fun vs=>
 gC vs fun m4 xI=>
 gB m4 fun x2=>
 gN xI<|
 bd (
 ba x2 (
 some (0,[.list b1,.i .i64 3])) (
 some (0,[.list b1,.i .i64 WJ]))) fun p=>
 b9 (Nat.beq p.1 0)<|
 tJ .i64 p.2 fun x3 x4=>
 bd (
 ba (!decide (x4=0)) (
 some [.b true]) (
 some [.b (decide (x1=0))])) fun iL=>
 gC iL fun m7 BE=>
 gB m7 fun x5=>
 gN BE<|
 ba x5 (
 some (.kD (.list ([]:List MV)) [.list x3,.i .i64 x4])) (
 b9 (decide ((0:Int)≤x1∧x1=x1∧x1 *32≤2^46))<|
 bU (List.replicate (Int.toNat x1) (.agg [.i .i64 0,.i .i64 0,.s ([]:List UInt8)])) fun len=>
 bd (Loop (fun xB=>
 gC xB fun m8 mG=>
 gL m8 fun p2=>
 BD .i64 .i64 mG fun x6 x7 x8=>
 ba (decide (x6<(len:Int))) (
 bd (bR [.list x7,.i .i64 x8]) fun bL=>
 gW bL fun x9 WK=>
 tJ .i64 WK fun b2 WL=>
 gI .i64 x9 fun Fw=>
 idx p2 x6 fun y=>
 gA y fun cs=>
 eZ .i64 .i64 cs fun By View Value=>
 some (.inl [.list (p2.set (Int.toNat x6) (.agg [.i .i64 Fw,.i .i64 View,.s Value])),.i .i64 (IntKind.wrap .i64 (x6+1)),.list b2,.i .i64 WL])) (
 some (.inr (2,[.list p2,.list x7,.i .i64 x8])))) [.list (List.replicate (Int.toNat x1) (.agg [.i .i64 0,.i .i64 0,.s ([]:List UInt8)])),.i .i64 0,.list x3,.i .i64 x4]) fun p1=>
 b9 (Nat.beq p1.1 2)<|
 gC p1.2 fun LD nv=>
 gL LD fun p3=>
 tJ .i64 nv fun Ib Ic=>
 bd (bR [.list Ib,.i .i64 Ic]) fun cL=>
 gW cL fun LJ WM=>
 tJ .i64 WM fun b3 WN=>
 gI .i64 LJ fun IZ=>
 bd (c9 [.list b3,.i .i64 WN]) fun cZ=>
 gW cZ fun Mq WO=>
 tJ .i64 WO fun b4 WQ=>
 gS Mq fun QH=>
 bU p3 fun cR=>
 bd (Loop (fun xL=>
 tJ .i64 xL fun p5 GS=>
 ba (decide (GS<(cR:Int))) (
 idx p5 GS fun y1=>
 gA y1 fun jD=>
 eZ .i64 .i64 jD fun D9 eU cX=>
 idx (p5.set (Int.toNat GS) (.agg [.i .i64 D9,.i .i64 IZ,.s cX])) GS fun y2=>
 gA y2 fun nK=>
 eZ .i64 .i64 nK fun NO mg fR=>
 some (.inl [.list ((p5.set (Int.toNat GS) (.agg [.i .i64 D9,.i .i64 IZ,.s cX])).set (Int.toNat GS) (.agg [.i .i64 NO,.i .i64 mg,.s QH])),.i .i64 (IntKind.wrap .i64 (GS+1))])) (
 some (.inr (4,[.list p5])))) [.list p3,.i .i64 0]) fun p4=>
 b9 (Nat.beq p4.1 4)<|
 gC p4.2 fun m32 LQ=>
 gL m32 fun p6=>
 gN LQ<|
 some (.kD (.list p6) [.list b4,.i .i64 WQ]))
noncomputable def jL:Nat→List MV→Option MV:=bQ 73 (Tx dC) jV
theorem mI:aC Try.prog cx jL:=Tg nC 0 Ae [] [(0,1000000)] 64 [] [] [] [] [(4,⟨[0,3,1000000],[],[],[(0,[(28,.sc (.k .b))])],[]⟩),(2,⟨[0,3,1000000],[],[],[(0,[(16,.sc (.k .b))])],[]⟩)] [(3,⟨[0,3],[],[],[(0,[(1000000,.box [.k .l,.k (.i .i64)])])],[]⟩)] [(14,⟨[6,7,48,1000000],[],[(4,.sc (.own 30 72 false)),(49,.sc (.k (.i .i64)))],[(4,[(4,.sc (.own 30 72 false))])],[]⟩),(8,⟨[0,32],[],[(4,.sc (.own 30 72 false)),(33,.sc (.k (.i .i64))),(1000000,.box [.k .l,.k (.i .i64)])],[(2,[(4,.sc (.own 30 72 false)),(1000000,.box [.k .l,.k (.i .i64)])])],[]⟩)] [] Try.func73 (by kernel_rfl) (by kernel_rfl) (Ft fun _=>by kernel_rfl)
noncomputable def gd (Rw:MV):Option MV:=
 gB Rw fun WR=>
 ba WR (
 some (.i .i64 1)) (
 some (.i .i64 0))
noncomputable def rq:Nat→List MV→Option MV:=bQ 74 (eY gd) jL
theorem th:aC Try.prog cx rq:=qQ mI [] 4 [] [] [] Try.func74 (by kernel_rfl) (bH (fun _=>by kernel_rfl))
noncomputable def gf (a a1 a2:MV):Option MV:=
 gA a fun cs=>
 rj .i64 .i64 cs fun F T=>
 gI .i64 a1 fun nu=>
 gL a2 fun QQ=>
 bd (iB (.agg [.i .i64 F,.i .i64 T]) (.i .i64 nu)) fun rA=>
 gT rA fun vs=>
 gC vs fun m2 jh=>
 gA m2 fun jD=>
 bh .i64 .i64 .i64 .i64 .i64 jD fun SF ST Me View Has At Value Proof b6=>
 gC jh fun LA pO=>
 gI .i64 LA fun x=>
 gN pO<|
 ba (!decide (x=0)) (
 some (.cN [.agg (aI 0 0 0 0 false 0 ([]:List UInt8) ([]:List MV) ([]:List MV)),.i .i64 x])) (
 bd (bR [.list QQ,.i .i64 0]) fun bL=>
 gW bL fun x1 ls=>
 tJ .i64 ls fun b eA=>
 gI .i64 x1 fun x2=>
 bd (bR [.list b,.i .i64 eA]) fun cL=>
 gW cL fun x3 WK=>
 tJ .i64 WK fun b1 WJ=>
 gI .i64 x3 fun x4=>
 bd (bR [.list b1,.i .i64 WJ]) fun cZ=>
 gW cZ fun x5 WM=>
 tJ .i64 WM fun b2 WL=>
 gI .i64 x5 fun x6=>
 bd (c9 [.list b2,.i .i64 WL]) fun nh=>
 gW nh fun x7 WO=>
 tJ .i64 WO fun b3 WN=>
 gS x7 fun x8=>
 bd (dC [.list b3,.i .i64 WN]) fun sZ=>
 gW sZ fun x9 ls4=>
 tJ .i64 ls4 fun b4 WQ=>
 gL x9 fun Fw=>
 bd (
 ba (!decide (WQ=0)) (
 some [.b true]) (
 bd (gd (.b (decide (x4=1)))) fun yF=>
 gI .i64 yF fun Ib=>
 ba (!decide (x4=Ib)) (
 some [.b true]) (
 bU b4 fun len=>
 ba (decide ((0:Int)<(len:Int))) (
 some [.b true]) (
 bd (dc (.agg (aI SF ST Me x2 (decide (x4=1)) x6 x8 Fw b6))) fun ve=>
 gB ve fun Ic=>
 some [.b (!Ic)])))) fun iL=>
 gC iL fun TD xK=>
 gB TD fun LJ=>
 gN xK<|
 ba LJ (
 some (.cN [.agg (aI 0 0 0 0 false 0 ([]:List UInt8) ([]:List MV) ([]:List MV)),.i .i64 3])) (
 some (.cN [.agg (aI SF ST Me x2 (decide (x4=1)) x6 x8 Fw b6),.i .i64 0])))
noncomputable def rr:Nat→List MV→Option MV:=bQ 34 (Fl gf) rq
theorem tj:aC Try.prog cx rr:=UA th [] [] 68 [] [] [] [] [(8,⟨[6,8,9,10,11,14],[],[],[(0,[(64,.sc (.k .b))])],[]⟩)] [] [] [] Try.func34 (by kernel_rfl) (sW (fun _ _ _=>by kernel_rfl))
noncomputable def pX (b:MV):Option MV:=
 gL b fun b1=>
 bU b1 fun len=>
 ba (decide ((len:Int)=0)) (
 some (.cN [.i .u64 0,.list ([]:List MV),.i .i64 2])) (
 idx b1 0 fun y=>
 gI .u8 y fun x=>
 bd (
 ba (decide ((8:Int)<(IntKind.wrap .i64 x))) (
 some [.b true]) (
 ba (decide ((0:Int)<(IntKind.wrap .i64 x))) (
 bU b1 fun cR=>
 ba (decide ((1:Int)<(cR:Int))) (
 idx b1 1 fun y1=>
 gI .u8 y1 fun x1=>
 some [.b (decide (x1=0))]) (
 some [.b false])) (
 some [.b false]))) fun vs=>
 gC vs fun m vz=>
 gB m fun x2=>
 gN vz<|
 ba x2 (
 some (.cN [.i .u64 0,.list ([]:List MV),.i .i64 3])) (
 bU b1 fun ji=>
 ba (decide ((ji:Int)<(IntKind.wrap .i64 (1+(IntKind.wrap .i64 x))))) (
 some (.cN [.i .u64 0,.list ([]:List MV),.i .i64 2])) (
 bd (Loop (fun rY=>
 rj .u64 .i64 rY fun n i=>
 ba (decide (i≤(IntKind.wrap .i64 x))) (
 idx b1 i fun y2=>
 gI .u8 y2 fun x3=>
 some (.inl [.i .u64 (IntKind.wrap .u64 ((IntKind.wrap .u64 (256 *n))+(IntKind.wrap .u64 x3))),.i .i64 (IntKind.wrap .i64 (i+1))])) (
 some (.inr (2,[.i .u64 n])))) [.i .u64 0,.i .i64 1]) fun p=>
 b9 (Nat.beq p.1 2)<|
 gC p.2 fun m3 xI=>
 gI .u64 m3 fun n1=>
 gN xI<|
 b9 (kE 1 b1)<|
 bU b1 fun ze=>
 b9 (decide ((0:Int)≤(IntKind.wrap .i64 (1+(IntKind.wrap .i64 x)))∧(IntKind.wrap .i64 (1+(IntKind.wrap .i64 x)))≤(ze:Int)∧(ze:Int)≤(ze:Int)))<|
 some (.cN [.i .u64 n1,.list (List.drop (Int.toNat (IntKind.wrap .i64 (1+(IntKind.wrap .i64 x)))) (List.take (Int.toNat (ze:Int)) b1)),.i .i64 0]))))
noncomputable def Dr:Nat→List MV→Option MV:=bQ 105 (eY pX) rr
theorem BJ:aC Try.prog cx Dr:=yG tj [] [] 55 [] [] [] [(13,[0,1,2,3,4,5,6,7])] [(4,⟨[0,5],[],[],[(0,[(31,.sc (.k .b))])],[]⟩)] [] [(10,⟨[0,5],[],[(6,.sc (.k (.i .u64))),(7,.sc (.k (.i .i64)))],[(2,[(6,.sc (.k (.i .u64)))])],[]⟩)] [] Try.func105 (by kernel_rfl) (bH (fun _=>by kernel_rfl))
noncomputable def mh (b:MV):Option MV:=
 gL b fun b1=>
 bd (pX (.list b1)) fun rA=>
 gT rA fun vs=>
 BD .u64 .i64 vs fun x x1 x2=>
 ba (!decide (x2=0)) (
 some (.cN [.i .i64 0,.list ([]:List MV),.i .i64 x2])) (
 b9 (!decide ((2:Int)=0))<|
 ba (decide ((Int.tmod x 2)=1)) (
 b9 (!decide ((2:Int)=0))<|
 some (.cN [.i .i64 (IntKind.wrap .i64 ((IntKind.wrap .i64 (0-(IntKind.wrap .i64 (IntKind.wrap .u64 (Int.tdiv x 2)))))-1)),.list x1,.i .i64 0])) (
 b9 (!decide ((2:Int)=0))<|
 some (.cN [.i .i64 (IntKind.wrap .i64 (IntKind.wrap .u64 (Int.tdiv x 2))),.list x1,.i .i64 0])))
noncomputable def vj:Nat→List MV→Option MV:=bQ 104 (eY mh) Dr
theorem vE:aC Try.prog cx vj:=qQ BJ [] 30 [] [] [] Try.func104 (by kernel_rfl) (bH (fun _=>by kernel_rfl))
noncomputable def jk (b many:MV):Option MV:=
 gL b fun b1=>
 gI .i64 many fun many1=>
 bd (Loop (fun vz=>
 gC vz fun m rY=>
 gL m fun b2=>
 tJ .i64 rY fun out i=>
 ba (decide (i<many1)) (
 bd (mh (.list b2)) fun rA=>
 gT rA fun vs=>
 BD .i64 .i64 vs fun x x1 x2=>
 ba (!decide (x2=0)) (
 some (.inr (1,[.list ([]:List MV),.list ([]:List MV),.b false]))) (
 bU out fun len=>
 bU ([.i .i64 x]:List MV) fun cR=>
 b9 (decide ((len+cR) *8≤2^46))<|
 some (.inl [.list x1,.list (out++([.i .i64 x]:List MV)),.i .i64 (IntKind.wrap .i64 (i+1))]))) (
 some (.inr (2,[.list b2,.list out])))) [.list b1,.list ([]:List MV),.i .i64 0]) fun p=>
 ba (Nat.beq p.1 2) (
 gC p.2 fun m6 BE=>
 gL m6 fun b3=>
 gC BE fun m7 xB=>
 gL m7 fun Fv=>
 gN xB<|
 some (.cN [.list Fv,.list b3,.b true])) (
 b9 (Nat.beq p.1 1)<|
 Fq p.2 fun x3 x4 x5=>
 some (.cN [.list x3,.list x4,.b x5]))
noncomputable def Ar:Nat→List MV→Option MV:=bQ 75 (lD jk) vj
theorem zf:aC Try.prog cx Ar:=yG vE [] [] 33 [28] [] [] [] [] [] [(3,⟨[1],[],[(0,.sc (.k .l)),(7,.sc (.own 12 3 true)),(8,.sc (.k (.i .i64)))],[(1,[(4,.sc (.k .l)),(5,.sc (.k .l)),(6,.sc (.k .b))]),(2,[(0,.sc (.k .l)),(7,.sc (.own 12 3 true))])],[12]⟩)] [] Try.func75 (by kernel_rfl) (cU (fun _ _=>by kernel_rfl))
noncomputable def iI (b most:MV):Option MV:=
 gL b fun b1=>
 gI .i64 most fun LR=>
 bd (pX (.list b1)) fun rA=>
 gT rA fun vs=>
 BD .u64 .i64 vs fun x x1 x2=>
 ba (!decide (x2=0)) (
 some (.cN [.s ([]:List UInt8),.list ([]:List MV),.i .i64 x2])) (
 ba (decide ((IntKind.wrap .u64 (imax LR 0))<x)) (
 some (.cN [.s ([]:List UInt8),.list ([]:List MV),.i .i64 5])) (
 bU x1 fun len=>
 ba (decide ((IntKind.wrap .u64 (len:Int))<x)) (
 some (.cN [.s ([]:List UInt8),.list ([]:List MV),.i .i64 2])) (
 bU x1 fun cR=>
 b9 (decide ((0:Int)≤0∧(0:Int)≤x∧x≤(cR:Int)))<|
 su (List.drop (Int.toNat 0) (List.take (Int.toNat x) x1)) fun bs=>
 b9 (kE 1 x1)<|
 bU x1 fun ji=>
 b9 (decide ((0:Int)≤x∧x≤(ji:Int)∧(ji:Int)≤(ji:Int)))<|
 some (.cN [.s bs,.list (List.drop (Int.toNat x) (List.take (Int.toNat (ji:Int)) x1)),.i .i64 0]))))
noncomputable def tk:Nat→List MV→Option MV:=bQ 76 (lD iI) Ar
theorem uw:aC Try.prog cx tk:=yG zf [] [] 36 [] [] [] [(8,[0,1,2,3,4,5,6,7,8,9])] [] [] [] [] Try.func76 (by kernel_rfl) (cU (fun _ _=>by kernel_rfl))
noncomputable def oA (a:MV):Option MV:=
 gL a fun a1=>
 bd (jk (.list a1) (.i .i64 1)) fun rA=>
 gT rA fun vs=>
 Fq vs fun x x1 x2=>
 bd (
 ba (!x2) (
 some [.b true]) (
 idx x 0 fun y=>
 gI .i64 y fun x3=>
 ba (decide (x3<0)) (
 some [.b true]) (
 idx x 0 fun y1=>
 gI .i64 y1 fun x4=>
 some [.b (decide ((100:Int)<x4))]))) fun iL=>
 gC iL fun m3 ot=>
 gB m3 fun x5=>
 gN ot<|
 ba x5 (
 some (.cN [.list ([]:List MV),.list ([]:List MV),.b false])) (
 idx x 0 fun y2=>
 gI .i64 y2 fun x6=>
 ba (decide (x6=0)) (
 some (.cN [.list ([]:List MV),.list x1,.b true])) (
 idx x 0 fun y3=>
 gI .i64 y3 fun x7=>
 bd (jk (.list x1) (.i .i64 x7)) fun bL=>
 gT bL fun o7=>
 Fq o7 fun x8 x9 Fw=>
 ba (!Fw) (
 some (.cN [.list ([]:List MV),.list ([]:List MV),.b false])) (
 bd (jk (.list x9) (.i .i64 1)) fun cL=>
 gT cL fun Ia=>
 Fq Ia fun Ib Ic LJ=>
 ba (!LJ) (
 some (.cN [.list ([]:List MV),.list ([]:List MV),.b false])) (
 bd (iI (.list Ic) (.i .i64 6000)) fun cZ=>
 gT cZ fun NR=>
 gC NR fun NP nt=>
 gS NP fun IZ=>
 tJ .i64 nt fun Mq QH=>
 ba (!decide (QH=0)) (
 some (.cN [.list ([]:List MV),.list ([]:List MV),.b false])) (
 bd (Loop (fun xF=>
 tJ .i64 xF fun xs GS=>
 bU x8 fun len=>
 ba (decide (GS<(len:Int))) (
 idx x8 GS fun y4=>
 gI .i64 y4 fun WA=>
 idx Ib 0 fun y5=>
 gI .i64 y5 fun WB=>
 bU xs fun cR=>
 bU ([.agg [.i .i64 WA,.i .i64 WB,.s IZ]]:List MV) fun ji=>
 b9 (decide ((cR+ji) *32≤2^46))<|
 some (.inl [.list (xs++([.agg [.i .i64 WA,.i .i64 WB,.s IZ]]:List MV)),.i .i64 (IntKind.wrap .i64 (GS+1))])) (
 some (.inr (2,[.list xs])))) [.list ([]:List MV),.i .i64 0]) fun p=>
 b9 (Nat.beq p.1 2)<|
 gC p.2 fun LC pQ=>
 gL LC fun QR=>
 gN pQ<|
 some (.cN [.list QR,.list Mq,.b true]))))))
noncomputable def xO:Nat→List MV→Option MV:=bQ 77 (eY oA) tk
theorem xP:aC Try.prog cx xO:=yG uw [] [] 87 [83] [] [] [(19,[0,1,2,3,4,5,6,7,8,9,10,11,12])] [(2,⟨[5,6,7],[],[],[(0,[(33,.sc (.k .b))])],[66]⟩)] [] [(17,⟨[6,8,9,10],[],[(12,.sc (.own 66 72 true)),(13,.sc (.k (.i .i64)))],[(2,[(12,.sc (.own 66 72 true))])],[66]⟩)] [] Try.func77 (by kernel_rfl) (bH (fun _=>by kernel_rfl))
noncomputable def tl (a a1 a2:MV):Option MV:=
 gA a fun cs=>
 rj .i64 .i64 cs fun F T=>
 gI .i64 a1 fun nu=>
 gL a2 fun QQ=>
 bd (td (.agg [.i .i64 F,.i .i64 T]) (.i .i64 nu)) fun rA=>
 gT rA fun vs=>
 gC vs fun m2 jh=>
 gA m2 fun jD=>
 bh .i64 .i64 .i64 .i64 .i64 jD fun SF ST Me View Has At Value Proof b6=>
 gC jh fun LA pO=>
 gI .i64 LA fun x=>
 gN pO<|
 ba (!decide (x=0)) (
 some (.cN [.agg (aI 0 0 0 0 false 0 ([]:List UInt8) ([]:List MV) ([]:List MV)),.i .i64 x])) (
 bd (jk (.list QQ) (.i .i64 3)) fun bL=>
 gT bL fun iL=>
 Fq iL fun x1 x2 x3=>
 bd (
 ba (!x3) (
 some [.b true]) (
 idx x1 1 fun y=>
 gI .i64 y fun x4=>
 ba (!decide (x4=0)) (
 idx x1 1 fun y1=>
 gI .i64 y1 fun x5=>
 some [.b (!decide (x5=1))]) (
 some [.b false]))) fun o7=>
 gC o7 fun NQ pQ=>
 gB NQ fun x6=>
 gN pQ<|
 ba x6 (
 some (.cN [.agg (aI 0 0 0 0 false 0 ([]:List UInt8) ([]:List MV) ([]:List MV)),.i .i64 3])) (
 bd (iI (.list x2) (.i .i64 6000)) fun cL=>
 gT cL fun Ia=>
 gC Ia fun LD ta=>
 gS LD fun x7=>
 tJ .i64 ta fun x8 x9=>
 ba (!decide (x9=0)) (
 some (.cN [.agg (aI 0 0 0 0 false 0 ([]:List UInt8) ([]:List MV) ([]:List MV)),.i .i64 3])) (
 bd (oA (.list x8)) fun cZ=>
 gT cZ fun NR=>
 Fq NR fun Fw Ib Ic=>
 bd (
 ba (!Ic) (
 some [.b true]) (
 bU Ib fun len=>
 some [.b (decide ((0:Int)<(len:Int)))])) fun WS=>
 gC WS fun TD xK=>
 gB TD fun LJ=>
 gN xK<|
 ba LJ (
 some (.cN [.agg (aI 0 0 0 0 false 0 ([]:List UInt8) ([]:List MV) ([]:List MV)),.i .i64 3])) (
 idx x1 0 fun y2=>
 gI .i64 y2 fun IZ=>
 idx x1 1 fun y3=>
 gI .i64 y3 fun Mq=>
 idx x1 2 fun y4=>
 gI .i64 y4 fun QH=>
 bd (nB (.agg (aI SF ST Me IZ (decide (Mq=1)) QH x7 Fw b6))) fun nh=>
 gB nh fun GS=>
 ba (!GS) (
 some (.cN [.agg (aI 0 0 0 0 false 0 ([]:List UInt8) ([]:List MV) ([]:List MV)),.i .i64 3])) (
 some (.cN [.agg (aI SF ST Me IZ (decide (Mq=1)) QH x7 Fw b6),.i .i64 0]))))))
noncomputable def Ds:Nat→List MV→Option MV:=bQ 35 (Fl tl) xO
theorem BK:aC Try.prog cx Ds:=qQ xP [] 91 [(11,⟨[6,8,10,11,12,13,14],[],[],[(0,[(67,.sc (.k .b))])],[]⟩),(5,⟨[6,8,10,11,12],[],[],[(0,[(44,.sc (.k .b))])],[]⟩)] [] [] Try.func35 (by kernel_rfl) (sW (fun _ _ _=>by kernel_rfl))
noncomputable def oB (x:MV):Option MV:=
 gI .u64 x fun x1=>
 bd (
 ba (decide ((4294967296:Int)≤x1)) (
 b9 (decide ((0:Int)≤32))<|
 some (0,[.i .u64 (Int.fdiv x1 (2^min (Int.toNat 32) (IntKind.bits .u64))),.i .i64 32])) (
 some (0,[.i .u64 x1,.i .i64 0]))) fun p=>
 b9 (Nat.beq p.1 0)<|
 rj .u64 .i64 p.2 fun x2 n=>
 bd (
 ba (decide ((65536:Int)≤x2)) (
 b9 (decide ((0:Int)≤16))<|
 some (0,[.i .u64 (Int.fdiv x2 (2^min (Int.toNat 16) (IntKind.bits .u64))),.i .i64 (IntKind.wrap .i64 (n+16))])) (
 some (0,[.i .u64 x2,.i .i64 n]))) fun p1=>
 b9 (Nat.beq p1.1 0)<|
 rj .u64 .i64 p1.2 fun x3 n1=>
 bd (
 ba (decide ((256:Int)≤x3)) (
 b9 (decide ((0:Int)≤8))<|
 some (0,[.i .u64 (Int.fdiv x3 (2^min (Int.toNat 8) (IntKind.bits .u64))),.i .i64 (IntKind.wrap .i64 (n1+8))])) (
 some (0,[.i .u64 x3,.i .i64 n1]))) fun p2=>
 b9 (Nat.beq p2.1 0)<|
 rj .u64 .i64 p2.2 fun x4 n2=>
 b9 (decide ((0:Int)≤(IntKind.wrap .u8 x4)∧(IntKind.wrap .u8 x4)<(((([0,1,2,2,3,3,3,3,4,4,4,4,4,4,4,4,5,5,5,5,5,5,5,5,5,5,5,5,5,5,5,5,6,6,6,6,6,6,6,6,6,6,6,6,6,6,6,6,6,6,6,6,6,6,6,6,6,6,6,6,6,6,6,6]:List UInt8)++([7,7,7,7,7,7,7,7,7,7,7,7,7,7,7,7,7,7,7,7,7,7,7,7,7,7,7,7,7,7,7,7,7,7,7,7,7,7,7,7,7,7,7,7,7,7,7,7,7,7,7,7,7,7,7,7,7,7,7,7,7,7,7,7]:List UInt8))++(([8,8,8,8,8,8,8,8,8,8,8,8,8,8,8,8,8,8,8,8,8,8,8,8,8,8,8,8,8,8,8,8,8,8,8,8,8,8,8,8,8,8,8,8,8,8,8,8,8,8,8,8,8,8,8,8,8,8,8,8,8,8,8,8]:List UInt8)++([8,8,8,8,8,8,8,8,8,8,8,8,8,8,8,8,8,8,8,8,8,8,8,8,8,8,8,8,8,8,8,8,8,8,8,8,8,8,8,8,8,8,8,8,8,8,8,8,8,8,8,8,8,8,8,8,8,8,8,8,8,8,8,8]:List UInt8))).length:Int)))<|
 some (.i .i64 (IntKind.wrap .i64 (n2+(IntKind.wrap .i64 ((((([0,1,2,2,3,3,3,3,4,4,4,4,4,4,4,4,5,5,5,5,5,5,5,5,5,5,5,5,5,5,5,5,6,6,6,6,6,6,6,6,6,6,6,6,6,6,6,6,6,6,6,6,6,6,6,6,6,6,6,6,6,6,6,6]:List UInt8)++([7,7,7,7,7,7,7,7,7,7,7,7,7,7,7,7,7,7,7,7,7,7,7,7,7,7,7,7,7,7,7,7,7,7,7,7,7,7,7,7,7,7,7,7,7,7,7,7,7,7,7,7,7,7,7,7,7,7,7,7,7,7,7,7]:List UInt8))++(([8,8,8,8,8,8,8,8,8,8,8,8,8,8,8,8,8,8,8,8,8,8,8,8,8,8,8,8,8,8,8,8,8,8,8,8,8,8,8,8,8,8,8,8,8,8,8,8,8,8,8,8,8,8,8,8,8,8,8,8,8,8,8,8]:List UInt8)++([8,8,8,8,8,8,8,8,8,8,8,8,8,8,8,8,8,8,8,8,8,8,8,8,8,8,8,8,8,8,8,8,8,8,8,8,8,8,8,8,8,8,8,8,8,8,8,8,8,8,8,8,8,8,8,8,8,8,8,8,8,8,8,8]:List UInt8))).getD (Int.toNat (IntKind.wrap .u8 x4)) 0).toNat:Int)))))
noncomputable def xQ:Nat→List MV→Option MV:=bQ 136 (eY oB) Ds
theorem xR:aC Try.prog cx xQ:=qQ BK [] 25 [] [(8,⟨[],[],[],[(0,[(0,.sc (.k (.i .u64))),(2,.sc (.k (.i .i64)))])],[]⟩),(5,⟨[],[],[],[(0,[(0,.sc (.k (.i .u64))),(2,.sc (.k (.i .i64)))])],[]⟩),(2,⟨[],[],[],[(0,[(0,.sc (.k (.i .u64))),(2,.sc (.k (.i .i64)))])],[]⟩)] [] Try.func136 (by kernel_rfl) (bH (fun _=>by kernel_rfl))
noncomputable def oC (n:MV):Option MV:=
 gI .u64 n fun n1=>
 bd (oB (.i .u64 n1)) fun rA=>
 gI .i64 rA fun x=>
 b9 (!decide ((8:Int)=0))<|
 some (.i .i64 (IntKind.wrap .i64 (1+(IntKind.wrap .i64 (Int.tdiv (IntKind.wrap .i64 (x+7)) 8)))))
noncomputable def xS:Nat→List MV→Option MV:=bQ 125 (eY oC) xQ
theorem xT:aC Try.prog cx xS:=qQ xR [] 8 [] [] [] Try.func125 (by kernel_rfl) (bH (fun _=>by kernel_rfl))
noncomputable def gm (sA:MV):Option MV:=
 gL sA fun Ig=>
 bU Ig fun len=>
 bU Ig fun cR=>
 b9 (decide ((len:Int)=(Ig.length:Int)∧(cR:Int)=(Ig.length:Int)))<|
 some (.clip Ig)
noncomputable def oU:Nat→List MV→Option MV:=bQ 126 (eY gm) xS
theorem qR:aC Try.prog cx oU:=qQ xT [] 9 [] [] [] Try.func126 (by kernel_rfl) (bH (fun _=>by kernel_rfl))
noncomputable def nD (b n:MV):Option MV:=
 gL b fun b1=>
 gI .u64 n fun n1=>
 bd (oC (.i .u64 n1)) fun rA=>
 gI .i64 rA fun x=>
 bd (gm (.list b1)) fun bL=>
 Q8 bL fun xs=>
 b9 (kE 1 xs)<|
 bU xs fun len=>
 bU ([.i .u8 (IntKind.wrap .u8 (IntKind.wrap .i64 (x-1)))]:List MV) fun cR=>
 b9 (decide (0<cR∧(len+cR) *1≤2^46))<|
 bd (Loop (fun vz=>
 tJ .i64 vz fun out i=>
 ba (decide ((0:Int)≤i)) (
 b9 (decide ((0:Int)≤(IntKind.wrap .i64 (8 *i))))<|
 bU out fun ji=>
 bU ([.i .u8 (IntKind.wrap .u8 (Int.fdiv n1 (2^min (Int.toNat (IntKind.wrap .i64 (8 *i))) (IntKind.bits .u64))))]:List MV) fun ze=>
 b9 (decide ((ji+ze) *1≤2^46))<|
 some (.inl [.list (out++([.i .u8 (IntKind.wrap .u8 (Int.fdiv n1 (2^min (Int.toNat (IntKind.wrap .i64 (8 *i))) (IntKind.bits .u64))))]:List MV)),.i .i64 (IntKind.wrap .i64 (i-1))])) (
 some (.inr (2,[.list out])))) [.list (xs++([.i .u8 (IntKind.wrap .u8 (IntKind.wrap .i64 (x-1)))]:List MV)),.i .i64 (IntKind.wrap .i64 ((IntKind.wrap .i64 (x-1))-1))]) fun p=>
 b9 (Nat.beq p.1 2)<|
 gC p.2 fun m2 ot=>
 gL m2 fun Fv=>
 gN ot<|
 some (.fresh Fv)
noncomputable def As:Nat→List MV→Option MV:=bQ 106 (lD nD) oU
theorem zg:aC Try.prog cx As:=Rx qR 5 [] [] 32 [15,29] [] [] [] [] [] [(4,⟨[1],[],[(6,.sc (.own 16 5 false)),(7,.sc (.k (.i .i64)))],[(2,[(6,.sc (.own 16 5 false))])],[]⟩)] [] Try.func106 (by kernel_rfl) (by kernel_rfl) (cU (fun _ _=>by kernel_rfl))
noncomputable def fG (b n:MV):Option MV:=
 gL b fun b1=>
 gI .i64 n fun n1=>
 b9 (decide ((0:Int)≤1))<|
 b9 (decide ((0:Int)≤63))<|
 bd (nD (.list b1) (.i .u64 (tN .u64 (IntKind.wrap .u64 ((IntKind.wrap .u64 n1) *2^min (Int.toNat 1) (IntKind.bits .u64))) (IntKind.wrap .u64 (Int.fdiv n1 (2^min (Int.toNat 63) (IntKind.bits .i64))))))) fun rA=>
 gF rA fun xs=>
 some (.fresh xs)
noncomputable def Au:Nat→List MV→Option MV:=bQ 78 (lD fG) As
theorem zh:aC Try.prog cx Au:=Rx zg 5 [] [] 14 [] [] [] [] [] [] [] [] Try.func78 (by kernel_rfl) (by kernel_rfl) (cU (fun _ _=>by kernel_rfl))
noncomputable def lj (b sA:MV):Option MV:=
 gL b fun b1=>
 gS sA fun Ig=>
 bd (nD (.list b1) (.i .u64 (IntKind.wrap .u64 (Ig.length:Int)))) fun rA=>
 gF rA fun xs=>
 bU xs fun len=>
 bU (yI Ig) fun cR=>
 b9 (decide ((len+cR) *1≤2^46))<|
 some (.fresh (xs++(yI Ig)))
noncomputable def xU:Nat→List MV→Option MV:=bQ 79 (lD lj) Au
theorem xV:aC Try.prog cx xU:=Rx zh 5 [] [] 12 [] [] [] [] [] [] [] [] Try.func79 (by kernel_rfl) (by kernel_rfl) (cU (fun _ _=>by kernel_rfl))
noncomputable def gh (a:MV):Option MV:=
 gA a fun cs=>
 bh .i64 .i64 .i64 .i64 .i64 cs fun SF ST Me View Has At Value Proof b6=>
 bd (fG (.list ([]:List MV)) (.i .i64 View)) fun rA=>
 gF rA fun xs=>
 bd (gd (.b Has)) fun bL=>
 gI .i64 bL fun x=>
 bd (fG (.list xs) (.i .i64 x)) fun cL=>
 gF cL fun QR=>
 bd (fG (.list QR) (.i .i64 At)) fun cZ=>
 gF cZ fun WT=>
 bU Proof fun len=>
 bd (lj (.list WT) (.s Value)) fun nh=>
 gF nh fun WU=>
 bd (fG (.list WU) (.i .i64 (len:Int))) fun sZ=>
 gF sZ fun WV=>
 bU Proof fun cR=>
 bd (Loop (fun mG=>
 tJ .i64 mG fun b x1=>
 ba (decide (x1<(cR:Int))) (
 idx Proof x1 fun y=>
 gA y fun jD=>
 eZ .i64 .i64 jD fun By eU cX=>
 bd (fG (.list b) (.i .i64 By)) fun yF=>
 gF yF fun WW=>
 some (.inl [.list WW,.i .i64 (IntKind.wrap .i64 (x1+1))])) (
 some (.inr (2,[.list b])))) [.list WV,.i .i64 0]) fun p=>
 b9 (Nat.beq p.1 2)<|
 gC p.2 fun Ty xJ=>
 gL Ty fun b1=>
 gN xJ<|
 bd (pP (.list Proof)) fun ve=>
 gT ve fun vs=>
 gC vs fun LC pQ=>
 gI .i64 LC fun x2=>
 gC pQ fun NQ ta=>
 gS NQ fun x3=>
 gC ta fun LD nv=>
 gB LD fun x4=>
 gN nv<|
 bd (
 ba x4 (
 bd (fG (.list b1) (.i .i64 x2)) fun Lm=>
 gF Lm fun WX=>
 bd (lj (.list WX) (.s x3)) fun NK=>
 gF NK fun WY=>
 some (0,[.list WY])) (
 some (0,[.list b1]))) fun p1=>
 b9 (Nat.beq p1.1 0)<|
 gC p1.2 fun QF pR=>
 gL QF fun b2=>
 gN pR<|
 some (.list b2)
noncomputable def ru:Nat→List MV→Option MV:=bQ 36 (eY gh) xU
theorem tm:aC Try.prog cx ru:=yG xV [] [] 53 [] [] [] [(1,[0,1,3,4,7,8,2,5,6,9,10]),(2,[0,1,2,4,5,6,3,7,8])] [] [(10,⟨[6,7],[],[],[(0,[(3,.sc (.own 26 5 true))])],[11,15,18,22,26,37,49,51]⟩)] [(4,⟨[1,28,29],[],[(3,.sc (.own 26 5 true)),(30,.sc (.k (.i .i64)))],[(2,[(3,.sc (.own 26 5 true))])],[11,15,18,22,26,37,49,51]⟩)] [] Try.func36 (by kernel_rfl) (bH (fun _=>by kernel_rfl))
noncomputable def tp (n:MV):Option MV:=
 gI .u64 n fun n1=>
 bd (Loop (fun vz=>
 rj .u64 .i64 vz fun n2 k=>
 ba (decide ((0:Int)<n2)) (
 b9 (!decide ((256:Int)=0))<|
 some (.inl [.i .u64 (IntKind.wrap .u64 (Int.tdiv n2 256)),.i .i64 (IntKind.wrap .i64 (k+1))])) (
 some (.inr (2,[.i .i64 k])))) [.i .u64 n1,.i .i64 1]) fun p=>
 b9 (Nat.beq p.1 2)<|
 gC p.2 fun m2 ot=>
 gI .i64 m2 fun k1=>
 gN ot<|
 some (.i .i64 k1)
noncomputable def Dt:Nat→List MV→Option MV:=bQ 127 (eY tp) ru
theorem BL:aC Try.prog cx Dt:=qQ tm [] 11 [] [] [(2,⟨[],[],[(0,.sc (.k (.i .u64))),(3,.sc (.k (.i .i64)))],[(2,[(3,.sc (.k (.i .i64)))])],[]⟩)] Try.func127 (by kernel_rfl) (bH (fun _=>by kernel_rfl))
noncomputable def qG (b n:MV):Option MV:=
 gL b fun b1=>
 gI .u64 n fun n1=>
 b9 (kE 1 b1)<|
 bU ([]:List MV) fun len=>
 bU b1 fun cR=>
 b9 (decide ((len+cR) *1≤2^46))<|
 bd (tp (.i .u64 n1)) fun rA=>
 gI .i64 rA fun x=>
 bU (([]:List MV)++b1) fun ji=>
 bU ([.i .u8 (IntKind.wrap .u8 (IntKind.wrap .i64 (x-1)))]:List MV) fun ze=>
 b9 (decide ((ji+ze) *1≤2^46))<|
 bd (Loop (fun vz=>
 tJ .i64 vz fun out i=>
 ba (decide ((0:Int)≤i)) (
 bd (Loop (fun ot=>
 rj .u64 .i64 ot fun x1 j=>
 ba (decide (j<i)) (
 b9 (!decide ((256:Int)=0))<|
 some (.inl [.i .u64 (IntKind.wrap .u64 (Int.tdiv x1 256)),.i .i64 (IntKind.wrap .i64 (j+1))])) (
 some (.inr (4,[.i .u64 x1])))) [.i .u64 n1,.i .i64 0]) fun p1=>
 b9 (Nat.beq p1.1 4)<|
 gC p1.2 fun m4 Lx=>
 gI .u64 m4 fun x2=>
 gN Lx<|
 b9 (!decide ((256:Int)=0))<|
 bU out fun QO=>
 bU ([.i .u8 (IntKind.wrap .u8 (Int.tmod x2 256))]:List MV) fun QP=>
 b9 (decide ((QO+QP) *1≤2^46))<|
 some (.inl [.list (out++([.i .u8 (IntKind.wrap .u8 (Int.tmod x2 256))]:List MV)),.i .i64 (IntKind.wrap .i64 (i-1))])) (
 some (.inr (2,[.list out])))) [.list ((([]:List MV)++b1)++([.i .u8 (IntKind.wrap .u8 (IntKind.wrap .i64 (x-1)))]:List MV)),.i .i64 (IntKind.wrap .i64 ((IntKind.wrap .i64 (x-1))-1))]) fun p=>
 b9 (Nat.beq p.1 2)<|
 gC p.2 fun m5 BE=>
 gL m5 fun Fv=>
 gN BE<|
 some (.fresh Fv)
noncomputable def GY:Nat→List MV→Option MV:=bQ 107 (lD qG) Dt
theorem Du:aC Try.prog cx GY:=Rx BL 5 [] [] 42 [19,39] [] [] [] [] [] [(9,⟨[1,5,7],[10],[(8,.sc (.k (.i .u64))),(9,.sc (.k (.i .i64)))],[(4,[(8,.sc (.k (.i .u64)))])],[]⟩),(5,⟨[1],[],[(5,.sc (.own 10 5 false)),(7,.sc (.k (.i .i64)))],[(2,[(5,.sc (.own 10 5 false))])],[]⟩)] [] Try.func107 (by kernel_rfl) (by kernel_rfl) (cU (fun _ _=>by kernel_rfl))
noncomputable def ki (b n:MV):Option MV:=
 gL b fun b1=>
 gI .i64 n fun n1=>
 ba (decide (n1<0)) (
 bd (qG (.list b1) (.i .u64 (IntKind.wrap .u64 ((IntKind.wrap .u64 (2 *(IntKind.wrap .u64 (IntKind.wrap .i64 (0-(IntKind.wrap .i64 (n1+1)))))))+1)))) fun rA=>
 gF rA fun xs=>
 some (.fresh xs)) (
 bd (qG (.list b1) (.i .u64 (IntKind.wrap .u64 (2 *(IntKind.wrap .u64 n1))))) fun bL=>
 gF bL fun QR=>
 some (.fresh QR))
noncomputable def GZ:Nat→List MV→Option MV:=bQ 81 (lD ki) GY
theorem Dv:aC Try.prog cx GZ:=Rx Du 5 [] [] 20 [] [] [] [] [] [] [] [] Try.func81 (by kernel_rfl) (by kernel_rfl) (cU (fun _ _=>by kernel_rfl))
noncomputable def pY (b sA:MV):Option MV:=
 gL b fun b1=>
 gS sA fun Ig=>
 bd (qG (.list b1) (.i .u64 (IntKind.wrap .u64 (Ig.length:Int)))) fun rA=>
 gF rA fun xs=>
 bU xs fun len=>
 bU (yI Ig) fun cR=>
 b9 (decide ((len+cR) *1≤2^46))<|
 some (.fresh (xs++(yI Ig)))
noncomputable def Dw:Nat→List MV→Option MV:=bQ 82 (lD pY) GZ
theorem BM:aC Try.prog cx Dw:=Rx Dv 5 [] [] 14 [] [] [] [] [] [] [] [] Try.func82 (by kernel_rfl) (by kernel_rfl) (cU (fun _ _=>by kernel_rfl))
noncomputable def tq (a:MV):Option MV:=
 gA a fun cs=>
 bh .i64 .i64 .i64 .i64 .i64 cs fun SF ST Me View Has At Value Proof b6=>
 bd (
 ba Has (
 some (0,[.i .i64 1])) (
 some (0,[.i .i64 0]))) fun p=>
 b9 (Nat.beq p.1 0)<|
 gC p.2 fun m9 mG=>
 gI .i64 m9 fun has=>
 gN mG<|
 bd (ki (.list ([]:List MV)) (.i .i64 View)) fun rA=>
 gF rA fun xs=>
 bd (ki (.list xs) (.i .i64 has)) fun bL=>
 gF bL fun QR=>
 bd (ki (.list QR) (.i .i64 At)) fun cL=>
 gF cL fun WT=>
 bd (pY (.list WT) (.s Value)) fun cZ=>
 gF cZ fun WU=>
 bU Proof fun len=>
 bd (ki (.list WU) (.i .i64 (len:Int))) fun nh=>
 gF nh fun WV=>
 bd (Loop (fun nt=>
 tJ .i64 nt fun b i=>
 bU Proof fun cR=>
 ba (decide (i<(cR:Int))) (
 idx Proof i fun y=>
 gA y fun jD=>
 eZ .i64 .i64 jD fun By eU cX=>
 bd (ki (.list b) (.i .i64 By)) fun sZ=>
 gF sZ fun WW=>
 some (.inl [.list WW,.i .i64 (IntKind.wrap .i64 (i+1))])) (
 some (.inr (2,[.list b])))) [.list WV,.i .i64 0]) fun p1=>
 b9 (Nat.beq p1.1 2)<|
 gC p1.2 fun LC pQ=>
 gL LC fun b1=>
 gN pQ<|
 bU Proof fun ji=>
 bd (
 ba (decide ((0:Int)<(ji:Int))) (
 idx Proof 0 fun y1=>
 gA y1 fun nK=>
 eZ .i64 .i64 nK fun D9 mg fR=>
 bd (ki (.list b1) (.i .i64 mg)) fun yF=>
 gF yF fun WX=>
 idx Proof 0 fun y2=>
 gA y2 fun jS=>
 eZ .i64 .i64 jS fun NO Dk uv=>
 bd (pY (.list WX) (.s uv)) fun ve=>
 gF ve fun WY=>
 some (0,[.list WY])) (
 some (0,[.list b1]))) fun p2=>
 b9 (Nat.beq p2.1 0)<|
 gC p2.2 fun Wz xK=>
 gL Wz fun b2=>
 gN xK<|
 some (.list b2)
noncomputable def Dx:Nat→List MV→Option MV:=bQ 37 (eY tq) Dw
theorem BN:aC Try.prog cx Dx:=qQ BM [] 61 [] [(14,⟨[1],[],[],[(0,[(4,.sc (.own 26 5 true))])],[10,13,17,21,26,41,52,59]⟩),(3,⟨[1],[],[],[(0,[(3,.sc (.k (.i .i64)))])],[10,13,17,21,26,41,52,59]⟩)] [(10,⟨[1],[],[(4,.sc (.own 26 5 true)),(5,.sc (.k (.i .i64)))],[(2,[(4,.sc (.own 26 5 true))])],[10,13,17,21,26,41,52,59]⟩)] Try.func37 (by kernel_rfl) (bH (fun _=>by kernel_rfl))
noncomputable def iJ (a a1:MV):Option MV:=
 gA a fun cs=>
 bh .i64 .i64 .i64 .i64 .i64 cs fun SF ST Me View Has At Value Proof b6=>
 gL a1 fun nu=>
 bd (
 bd (vW (.agg (aI SF ST Me View Has At Value Proof b6))) fun rA=>
 gB rA fun x=>
 ba (!x) (
 some [.b true]) (
 bU nu fun len=>
 ba (decide ((7000:Int)<(len:Int))) (
 some [.b true]) (
 bd (gQ (.agg (aI SF ST Me View Has At Value Proof b6))) fun bL=>
 gA bL fun jD=>
 bh .i64 .i64 .i64 .i64 .i64 jD fun QI QJ QK eU xy QL cX mH ox=>
 bd (nB (.agg (aI QI QJ QK eU xy QL cX mH ox))) fun cL=>
 gB cL fun x1=>
 some [.b (!x1)]))) fun vs=>
 gC vs fun QF nv=>
 gB QF fun x2=>
 gN nv<|
 ba x2 (
 bd (ny) fun cZ=>
 gB cZ fun x3=>
 some (.b x3)) (
 bd (gf (.agg [.i .i64 SF,.i .i64 ST]) (.i .i64 Me) (.list nu)) fun nh=>
 gT nh fun iL=>
 gC iL fun QG pR=>
 gA QG fun nK=>
 bh .i64 .i64 .i64 .i64 .i64 nK fun WC WD WE mg QM WG fR Fx BG=>
 gC pR fun H8 Dg=>
 gI .i64 H8 fun x4=>
 gN Dg<|
 bd (nA (.agg [.i .i64 SF,.i .i64 ST])) fun sZ=>
 gA sZ fun jS=>
 rj .i64 .i64 jS fun F T=>
 bd (tl (.agg [.i .i64 F,.i .i64 T]) (.i .i64 Me) (.list nu)) fun yF=>
 gT yF fun o7=>
 gC o7 fun m32 Dh=>
 gA m32 fun QN=>
 bh .i64 .i64 .i64 .i64 .i64 QN fun Ys Yt Yu Dk TL Yv uv LO GV=>
 gC Dh fun m42 TS=>
 gI .i64 m42 fun x5=>
 gN TS<|
 bd (gh (.agg (aI SF ST Me View Has At Value Proof b6))) fun ve=>
 gL ve fun x6=>
 bd (
 bd (gQ (.agg (aI WC WD WE mg QM WG fR Fx BG))) fun Lm=>
 gA Lm fun WH=>
 bh .i64 .i64 .i64 .i64 .i64 WH fun SF4 ST4 Me4 GU TN At4 Fy LP NT=>
 bd (pV (.agg (aI SF4 ST4 Me4 GU TN At4 Fy LP NT)) (.agg (aI Ys Yt Yu Dk TL Yv uv LO GV))) fun NK=>
 gB NK fun x7=>
 ba (!x7) (
 some [.b true]) (
 ba (!decide (x4=x5)) (
 some [.b true]) (
 su x6 fun bs=>
 bd (gQ (.agg (aI SF ST Me View Has At Value Proof b6))) fun Ln=>
 gA Ln fun WI=>
 bh .i64 .i64 .i64 .i64 .i64 WI fun SF5 ST5 Me5 LM WZ At5 LN QS NU=>
 bd (tq (.agg (aI SF5 ST5 Me5 LM WZ At5 LN QS NU))) fun Lo=>
 gL Lo fun x8=>
 su x8 fun UC=>
 some [.b (!decide (bs=UC))]))) fun Ia=>
 gC Ia fun m61 TT=>
 gB m61 fun x9=>
 gN TT<|
 ba x9 (
 some (.b false)) (
 bd (
 ba (decide (x4=0)) (
 su nu fun UD=>
 bd (gh (.agg (aI WC WD WE mg QM WG fR Fx BG))) fun Lp=>
 gL Lp fun Fw=>
 su Fw fun UE=>
 some [.b (!decide (UE=UD))]) (
 some [.b false])) fun NR=>
 gC NR fun m62 TU=>
 gB m62 fun Ib=>
 gN TU<|
 ba Ib (
 some (.b false)) (
 bd (gf (.agg [.i .i64 SF,.i .i64 ST]) (.i .i64 Me) (.list x6)) fun H9=>
 gT H9 fun WS=>
 gC WS fun m63 TV=>
 gA m63 fun cs7=>
 bh .i64 .i64 .i64 .i64 .i64 cs7 fun SF6 ST6 Me6 O0 W0 At6 Fz QT NV=>
 gC TV fun m73 TW=>
 gI .i64 m73 fun Ic=>
 gN TW<|
 bd (gQ (.agg (aI SF ST Me View Has At Value Proof b6))) fun pM=>
 gA pM fun cs8=>
 bh .i64 .i64 .i64 .i64 .i64 cs8 fun SF7 ST7 Me7 TX W1 At7 QU QV UF=>
 bd (
 bd (ny) fun NL=>
 gB NL fun LJ=>
 ba LJ (
 ba (decide (Ic=0)) (
 bd (gQ (.agg (aI SF6 ST6 Me6 O0 W0 At6 Fz QT NV))) fun Lq=>
 gA Lq fun cs9=>
 bh .i64 .i64 .i64 .i64 .i64 cs9 fun SF8 ST8 Me8 TY W3 At8 QW QX NW=>
 bd (pV (.agg (aI SF8 ST8 Me8 TY W3 At8 QW QX NW)) (.agg (aI SF7 ST7 Me7 TX W1 At7 QU QV ([]:List MV)))) fun NM=>
 gB NM fun IZ=>
 some [.b IZ]) (
 some [.b false])) (
 some [.b false])) fun vs6=>
 gC vs6 fun m92 TZ=>
 gB m92 fun Mq=>
 gN TZ<|
 some (.b Mq))))
noncomputable def tu:Nat→List MV→Option MV:=bQ 5 (lD iJ) Dx
theorem o8:aC Try.prog cx tu:=yG BN [] [] 102 [] [] [] [(4,[0,1,3,4,5,2,6,7,8,9,10,11,12]),(6,[0,2,1,3,4,5,6,7,8,9,10,11,12,13,14,15,16,17,18]),(8,[0,1,2,3,6,7,4,5,8,9]),(13,[0,1,2,3,4,5,6,8,7,9,10,11])] [(13,⟨[10,11,12],[],[],[(0,[(4,.sc (.k .b))])],[]⟩),(8,⟨[1,2,5,6,9],[],[],[(0,[(77,.sc (.k .b))])],[]⟩),(6,⟨[1,2,5,6,7,8,9],[],[],[(0,[(67,.sc (.k .b))])],[]⟩),(1,⟨[1,2],[],[],[(0,[(26,.sc (.k .b))])],[]⟩)] [] [] [] Try.func5 (by kernel_rfl) (cU (fun _ _=>by kernel_rfl))
end Dn.S
