import Derived.Test.YtjblhgpbkfmkoaaDnYTab
import Derived.Test.YtjblhgpbkfmkoaaDnC
import Derived.Test.YtjblhgpbkfmkoaaDnYT
import Derived.KernelRfl
import Derived.Test.YtjblhgpbkfmkoaaProg
/-
  The functions, on plain values, and their contracts. Conditions: none.
-/
open Go Dn Go.Proofs
set_option linter.unusedVariables false
set_option linter.unusedSimpArgs false
set_option maxRecDepth 100000
namespace Dn.S
theorem wC:fI Try.prog (qv FL):=DU (by kernel_rfl)
theorem JQ:Dy Try.prog (qv FL):=KZ (by kernel_rfl)
theorem zU:Try.prog.follows .mixedOrders=true:=by kernel_rfl
def pe {R:Type} (k0 k1:IntKind) (l0:List MV) (K:Int→Int→Option R):Option R:=gC l0 fun m0 l1=>gI k0 m0 fun x0=>gC l1 fun m1 l2=>gI k1 m1 fun x1=>gN l2<|K x0 x1
def cP {R:Type} (k0 k1 k3:IntKind) (l0:List MV) (K:Int→Int→Bool→Int→List UInt8→List MV→Option R):Option R:=gC l0 fun m0 l1=>gI k0 m0 fun x0=>gC l1 fun m1 l2=>gI k1 m1 fun x1=>gC l2 fun m2 l3=>gB m2 fun x2=>gC l3 fun m3 l4=>gI k3 m3 fun x3=>gC l4 fun m4 l5=>gS m4 fun x4=>gC l5 fun m5 l6=>gL m5 fun x5=>gN l6<|K x0 x1 x2 x3 x4 x5
def bK {R:Type} (k0 k1 k2 k3 k5:IntKind) (l0:List MV) (K:Int→Int→Int→Int→Bool→Int→List UInt8→List MV→List MV→Option R):Option R:=gC l0 fun m0 l1=>gI k0 m0 fun x0=>gC l1 fun m1 l2=>gI k1 m1 fun x1=>gC l2 fun m2 l3=>gI k2 m2 fun x2=>gC l3 fun m3 l4=>gI k3 m3 fun x3=>gC l4 fun m4 l5=>gB m4 fun x4=>gC l5 fun m5 l6=>gI k5 m5 fun x5=>gC l6 fun m6 l7=>gS m6 fun x6=>gC l7 fun m7 l8=>gL m7 fun x7=>gC l8 fun m8 l9=>gL m8 fun x8=>gN l9<|K x0 x1 x2 x3 x4 x5 x6 x7 x8
def dv {R:Type} (k0 k1:IntKind) (l0:List MV) (K:Int→Int→List UInt8→Option R):Option R:=gC l0 fun m0 l1=>gI k0 m0 fun x0=>gC l1 fun m1 l2=>gI k1 m1 fun x1=>gC l2 fun m2 l3=>gS m2 fun x2=>gN l3<|K x0 x1 x2
def Eh {R:Type} (k0:IntKind) (l0:List MV) (K:Int→List UInt8→Bool→Option R):Option R:=gC l0 fun m0 l1=>gI k0 m0 fun x0=>gC l1 fun m1 l2=>gS m1 fun x1=>gC l2 fun m2 l3=>gB m2 fun x2=>gN l3<|K x0 x1 x2
def vf {R:Type} (k1:IntKind) (l0:List MV) (K:List MV→Int→Option R):Option R:=gC l0 fun m0 l1=>gL m0 fun x0=>gC l1 fun m1 l2=>gI k1 m1 fun x1=>gN l2<|K x0 x1
@[reducible] def pT (x0 : Int) (x1 : Int) (x2 : Bool) (x3 : Int) (x4 : List UInt8) (x5 : List MV) : List MV := [.i .i64 x0, .i .i64 x1, .b x2, .i .i64 x3, .s x4, .list x5]
@[reducible] def bh (x0 : Int) (x1 : Int) (x2 : Int) (x3 : Int) (x4 : Bool) (x5 : Int) (x6 : List UInt8) (x7 : List MV) (x8 : List MV) : List MV := [.i .i64 x0, .i .i64 x1, .i .i64 x2, .i .i64 x3, .b x4, .i .i64 x5, .s x6, .list x7, .list x8]
def JR:List (Nat×jZ)→Nat→jZ
 |[],_=>default
 |(k,s)::r,t=>bif Nat.beq k t then s else JR r t
def OQ:List (Nat×List Nat)→Nat→List Nat
 |[],_=>[]
 |(k,s)::r,t=>bif Nat.beq k t then s else OQ r t
def OR:List (Nat×Nat)→Nat→Nat
 |[],_=>0
 |(k,s)::r,t=>bif Nat.beq k t then s else OR r t
def kk (n:Nat):Nat:=n
def gv (n:Nat):Bool:=aV [118,71,72,73] n
def frs (n:Nat):Bool:=aV [117,118,106,78,79,107,81,82,126] n
def SU:List (Nat×Nat):=[(117,72),(118,72),(106,5),(78,5),(79,5),(107,5),(81,5),(82,5)]
def Gf:List (Nat×FloatKind)→Nat→Option FloatKind
 |[],_=>none
 |(k,s)::r,t=>bif Nat.beq k t then some s else Gf r t
def JS:List (Nat×FloatKind):=[(170,.f64)]
theorem JT: ∀t k,Gf JS t=some k→Try.prog.underlying t=some (.float k):=by
 intro t k h
 unfold JS at h
 simp only [Gf] at h
 cases hb:Nat.beq 170 t with
 |true=>
  rw [hb] at h
  have ht:=Nat.eq_of_beq_eq_true hb
  subst ht
  simp only [cond_true,Option.some.injEq] at h
  subst h
  exact Try.underlying170
 |false=>
 rw [hb] at h
 simp only [cond_false] at h
 cases h
def OS:List (Nat×(Nat×Bool)):=[(184,(186,false)),(190,(9,false))]
def OT:List (Nat×(Nat×List LK))→Nat→Option (Nat×List LK)
 |[],_=>none
 |(k,s)::r,t=>bif Nat.beq k t then some s else OT r t
abbrev CK:List LK:=[.k (.l),.k (.i .i64)]
def OU:List (Nat×(Nat×List LK)):=[(71,(0,CK)),(72,(0,CK)),(73,(0,CK))]
def dl (n:Nat):Bool:=aV [] n
def cx:Ctx:=⟨qv FL,kk,fun _ _=>none,gv,frs,OR SU,OT OU,[],0,[],[],fun _=>[],Gf JS,zD OS,fun _=>[],fun _=>default,fun _=>default,fun _=>default,dl,[]⟩
def Ic (g:Nat→List MV→Option MV) (par:List (Nat×Nat)) (n:Nat) (bs fl:List Nat) (fz ord:List (Nat×List Nat)) (vW vR qH:List (Nat×jZ)) (dyn:List Nat):Ctx:=⟨qv FL,kk,g,gv,frs,OR SU,OT OU,par,n,bs,fl,OQ fz,Gf JS,zD OS,OQ ord,JR vW,JR vR,JR qH,dl,dyn⟩
theorem JU:qV Try.prog cx:=HU (l:=OS) (by kernel_rfl) (fun _ _ h=>h)
def Ei (t:Nat):TI:=match qv FL t with|some I=>I|none=>⟨false,0,0,[],[],[],[],0,[]⟩
theorem Yo:cx.tv 24=some (Ei 24):=by kernel_rfl
theorem Yp:cx.tv 72=some (Ei 72):=by kernel_rfl
theorem yu:mz Try.prog cx:=by
 intro n hn
 unfold cx dl aV at hn
 cases hn
theorem Ry {g:Nat→List MV→Option MV} (h:aC Try.prog cx g):aC Try.prog cx (bS 117 (tS 3 32) g):=h.Yk (fun _=>rfl) (fun ms r hr=>by
 obtain ⟨xs,rfl,rfl,h1,h2⟩:=F9 hr
 exact Om (P:=Try.prog) (c:=cx) (f:=117) (fn:=Try.f117) (t:=24) (I:=Ei 24) (E:=Ei 72) (i0:=0) (i1:=1) (i2:=2) (i3:=3) (oA:=Bs Try.f117 Bt 0) (oB:=Bs Try.f117 Bt 1) (oC:=Bs Try.f117 Bt 2) (oD:=Bs Try.f117 Bt 3) (oE:=Bs Try.f117 Bt 4) (oF:=Bs Try.f117 Bt 5) (oG:=Bs Try.f117 Bt 6) (oH:=Bs Try.f117 Bt 7) wC Yo (by kernel_rfl) Yp (Nat.le_of_ble_eq_true (by kernel_rfl)) (by kernel_rfl) (by kernel_rfl) Try.func117 (by kernel_rfl) (by kernel_rfl) (by kernel_rfl) (by kernel_rfl)
  ⟨by kernel_rfl,by kernel_rfl,by kernel_rfl⟩ ⟨by kernel_rfl,by kernel_rfl,by kernel_rfl⟩ ⟨by kernel_rfl,by kernel_rfl,by kernel_rfl⟩ ⟨by kernel_rfl,by kernel_rfl,by kernel_rfl⟩ ⟨by kernel_rfl,by kernel_rfl,by kernel_rfl⟩ ⟨by kernel_rfl,by kernel_rfl,by kernel_rfl⟩ ⟨by kernel_rfl,by kernel_rfl,by kernel_rfl⟩ ⟨by kernel_rfl,by kernel_rfl,by kernel_rfl⟩ (by rw [show (Ei 72).size=3 by kernel_rfl];exact h1) (by rw [show (Ei 72).bytes=32 by kernel_rfl];exact h2))
theorem UM:F6 Try.prog 118 24 3 4 72 134 Try.f118 (fun k=>k) (Bs Try.f118 Bt) (Rn (Bs Try.f118 Bt)):=by
 refine ⟨Try.func118,by kernel_rfl,by kernel_rfl,by kernel_rfl,by kernel_rfl,?_,zU,by kernel_rfl⟩
 constructor<;>first|exact ⟨by kernel_rfl,by kernel_rfl,by kernel_rfl⟩|kernel_rfl
theorem Yq: ∀args w,(callFunc 134 args).run Try.prog w=((Extern.SlicesOverlaps.overlaps #[24,24] #[4] args).run Try.prog w).andThen fun v w'=> .ok (.value v) w':=fun args w=>run_callFunc_extern Try.func134 (by kernel_rfl) (by kernel_rfl) (by kernel_rfl) (e:=Extern.SlicesOverlaps.overlaps #[24,24] #[4]) (by kernel_rfl) args w
theorem Rz {g:Nat→List MV→Option MV} (h:aC Try.prog cx g):aC Try.prog cx (bS 118 (pN 32) g):=h.Yk (fun _=>rfl) (fun ms r hr=>by
 obtain ⟨xs,ys,i,rfl,rfl,h1,h2,h3⟩:=Eb hr
 exact Lc (P:=Try.prog) (c:=cx) (I:=Ei 24) (E:=Ei 72) UM wC Yo (by kernel_rfl) Yp (Nat.le_of_ble_eq_true (by kernel_rfl)) (by kernel_rfl) (by kernel_rfl) (by kernel_rfl) (by kernel_rfl) Yq h1 h2 (by rw [show (Ei 72).bytes=32 by kernel_rfl];exact h3))
noncomputable def Yr:Nat→List MV→Option MV:=bS 117 (tS 3 32) (fun _ _=>none)
theorem Li:aC Try.prog cx Yr:=Ry (aC.none _ _)
noncomputable def Ys:Nat→List MV→Option MV:=bS 118 (pN 32) Yr
theorem Lj:aC Try.prog cx Ys:=Rz Li
theorem xZ {g:Nat→List MV→Option MV} (s:aC Try.prog cx g) (bo:List (List Kd)) (par:List (Nat×Nat)) (tn:Nat) (bs fl:List Nat) (fz ord:List (Nat×List Nat)) (vW vR qH:List (Nat×jZ)) (dyn:List Nat) {n:Nat} {fn:Func} {F:List MV→Option MV} (hf:Try.prog.funcs[n]? =some fn)
 (hh:s9 (Ic g par tn bs fl fz ord vW vR qH dyn) n fn bo=true) (hF: ∀{ms r},F ms=some r→B9 (Ic g par tn bs fl fz ord vW vR qH dyn) bo none fn ms=some r):aC Try.prog cx (bS n F g):=
 s.fn (c':=Ic g par tn bs fl fz ord vW vR qH dyn) ⟨rfl,rfl,rfl,rfl,rfl,rfl,rfl,rfl,rfl⟩ rfl wC JQ JT JU zU yu hf hh (fun _=>rfl) (fresh:=none) rfl hF
theorem q9 {g:Nat→List MV→Option MV} (s:aC Try.prog cx g) (bo:List (List Kd)) (tn:Nat) (vW vR qH:List (Nat×jZ)) {n:Nat} {fn:Func} {F:List MV→Option MV} (hf:Try.prog.funcs[n]? =some fn)
 (hh:s9 (Ic g [] tn [] [] [] [] vW vR qH []) n fn bo=true) (hF: ∀{ms r},F ms=some r→B9 (Ic g [] tn [] [] [] [] vW vR qH []) bo none fn ms=some r):aC Try.prog cx (bS n F g):=xZ s bo [] tn [] [] [] [] vW vR qH [] hf hh hF
theorem X2 {g:Nat→List MV→Option MV} (s:aC Try.prog cx g) (pos:Nat) (ks:List LK) (bo:List (List Kd)) (par:List (Nat×Nat)) (tn:Nat) (bs fl:List Nat) (fz ord:List (Nat×List Nat)) (vW vR qH:List (Nat×jZ)) (dyn:List Nat) {n:Nat} {fn:Func} {F:List MV→Option MV} (hf:Try.prog.funcs[n]? =some fn) (hs:cx.sig n=some (pos,ks))
 (hh:On (Ic g par tn bs fl fz ord vW vR qH dyn) n fn bo=true) (hF: ∀{ms r},F ms=some r→I9 (Ic g par tn bs fl fz ord vW vR qH dyn) bo pos ks fn ms=some r):aC Try.prog cx (bS n F g):=
 s.X2 wC JQ JT JU zU yu hf hs (fun _=>rfl) fun h=>⟨Ic g par tn bs fl fz ord vW vR qH dyn,⟨rfl,rfl,rfl,rfl,rfl,rfl,rfl,rfl,rfl⟩,rfl,hh,hF h⟩
theorem fnF {g:Nat→List MV→Option MV} (s:aC Try.prog cx g) (ty:Nat) (bo:List (List Kd)) (par:List (Nat×Nat)) (tn:Nat) (bs fl:List Nat) (fz ord:List (Nat×List Nat)) (vW vR qH:List (Nat×jZ)) (dyn:List Nat) {n:Nat} {fn:Func} {F:List MV→Option MV} (hf:Try.prog.funcs[n]? =some fn)
 (hh:s9 (Ic g par tn bs fl fz ord vW vR qH dyn) n fn bo=true) (xR:tQ (Ic g par tn bs fl fz ord vW vR qH dyn) n fn (some ty)=true) (hF: ∀{ms r},F ms=some r→B9 (Ic g par tn bs fl fz ord vW vR qH dyn) bo (some ty) fn ms=some r):aC Try.prog cx (bS n F g):=
 s.fn (c':=Ic g par tn bs fl fz ord vW vR qH dyn) ⟨rfl,rfl,rfl,rfl,rfl,rfl,rfl,rfl,rfl⟩ rfl wC JQ JT JU zU yu hf hh (fun _=>rfl) xR hF
theorem ZW {g:Nat→List MV→Option MV} (s:aC Try.prog cx g) (bo:List (List Kd)) (par:List (Nat×Nat)) (tn:Nat) (bs fl:List Nat) (fz ord:List (Nat×List Nat)) (vW vR qH:List (Nat×jZ)) (dyn:List Nat) {n:Nat} {fn:Func} {F:List MV→Option MV} (hf:Try.prog.funcs[n]? =some fn)
 (hh:s9 (Ic g par tn bs fl fz ord vW vR qH dyn) n fn bo=true) (hF: ∀{ms r},F ms=some r→F7 (Ic g par tn bs fl fz ord vW vR qH dyn) bo none fn ms=some r):aC Try.prog cx (bS n F g):=
 s.ZW (c':=Ic g par tn bs fl fz ord vW vR qH dyn) ⟨rfl,rfl,rfl,rfl,rfl,rfl,rfl,rfl,rfl⟩ rfl wC JQ JT JU zU yu hf hh (fun _=>rfl) (fresh:=none) rfl hF
abbrev Yt (d:List MV→Option MV):List MV→Option MV:=fun ms=>match ms with|[.cell (.func off a0)]=>(match Nat.beq off 0 with|true=>d a0|false=>none)|_=>none
theorem Ie {d:List MV→Option MV} {B:List MV→Option MV} (h: ∀a0,B [.cell (.func 0 a0)]=d a0) {ms:List MV} {r:MV} (e:Yt d ms=some r):B ms=some r:=by
 unfold Yt at e
 split at e
 ·rename_i off a0
  cases ho:Nat.beq off 0 with
  |true=>
   have:=Nat.eq_of_beq_eq_true ho
   subst this
   exact (h _).trans e
  |false=>rw [ho] at e;cases e
 ·cases e
noncomputable def sj (lA:MV):Option MV:=
 gL lA fun zV=>
 bd (Loop (fun wD=>
 gC wD fun m wE=>
 gI .i64 m fun i=>
 gN wE<|
 cI zV fun len=>
 aR (decide (i<(len:Int))) (
 bd (
 aR (decide (i=40)) (
 some [.b true]) (
 idx zV i fun y=>
 gA y fun cs=>
 dv .i64 .i64 cs fun By View Value=>
 some [.b (decide ((6100:Int)<(Value.length:Int)))])) fun vs=>
 gC vs fun m4 zW=>
 gB m4 fun x=>
 gN zW<|
 aR x (
 some (.inr (1,[.b false]))) (
 some (.inl [.i .i64 (IntKind.wrap .i64 (i+1))]))) (
 some (.inr (2,[])))) [.i .i64 0]) fun p=>
 aR (Nat.beq p.1 2) (
 gN p.2<|
 some (.b true)) (
 cE (Nat.beq p.1 1)<|
 gC p.2 fun m5 aci=>
 gB m5 fun x1=>
 gN aci<|
 some (.b x1))
noncomputable def CL:Nat→List MV→Option MV:=bS 60 (gd sj) Ys
theorem Bv:aC Try.prog cx CL:=q9 Lj [] 21 [(4,⟨[0,3],[],[],[(0,[(20,.sc (.k .b))])],[]⟩)] [] [(2,⟨[0],[],[(3,.sc (.k (.i .i64)))],[(1,[(2,.sc (.k .b))]),(2,[])],[]⟩)] Try.func60 (by kernel_rfl) (bU (fun _=>by kernel_rfl))
noncomputable def kE (sA:MV):Option MV:=
 gA sA fun cs=>
 pe .i64 .i64 cs fun F T=>
 some (.raw (.complex .f64 (FloatKind.nearest .f64 F) (FloatKind.nearest .f64 T)))
noncomputable def tc:Nat→List MV→Option MV:=bS 111 (gd kE) CL
theorem vg:aC Try.prog cx tc:=q9 Bv [] 10 [] [] [] Try.func111 (by kernel_rfl) (bU (fun _=>by kernel_rfl))
noncomputable def gl (sA times:MV):Option MV:=
 gA sA fun cs=>
 pe .i64 .i64 cs fun F T=>
 gR times fun OV=>
 bd (kE (.agg [.i .i64 F,.i .i64 T])) fun rA=>
 gR rA fun x=>
 P6 x fun re im=>
 P6 OV fun re1 im1=>
 bd (FloatKind.f64.format.mul re re1) fun f=>
 P6 x fun re2 im2=>
 P6 OV fun re3 im3=>
 bd (FloatKind.f64.format.mul im2 im3) fun f1=>
 bd (FloatKind.f64.format.add f f1) fun f2=>
 bd ((FloatKind.decode .f64 f2).toInt .zero) fun n=>
 cE (decide (IntKind.min .i64≤n∧n≤IntKind.max .i64))<|
 some (.i .i64 (IntKind.wrap .i64 (n+1)))
noncomputable def xC:Nat→List MV→Option MV:=bS 91 (nd gl) tc
theorem ya:aC Try.prog cx xC:=q9 vg [] 21 [] [] [] Try.func91 (by kernel_rfl) (dq (fun _ _=>by kernel_rfl))
noncomputable def tV (sA:MV):Option MV:=
 gA sA fun cs=>
 pe .i64 .i64 cs fun F T=>
 bd (gl (.agg [.i .i64 F,.i .i64 T]) (.raw (.complex .f64 4613937818241073152 4611686018427387904))) fun rA=>
 gI .i64 rA fun x=>
 some (.i .i64 x)
noncomputable def OW:Nat→List MV→Option MV:=bS 45 (gd tV) xC
theorem Ig:aC Try.prog cx OW:=q9 ya [] 5 [] [] [] Try.func45 (by kernel_rfl) (bU (fun _=>by kernel_rfl))
noncomputable def iY (sA:MV):Option MV:=
 gA sA fun cs=>
 pe .i64 .i64 cs fun F T=>
 bd (
 aR (decide ((1:Int)≤F)) (
 aR (decide (F≤5)) (
 aR (decide ((0:Int)≤T)) (
 some [.b (decide (T≤F))]) (
 some [.b false])) (
 some [.b false])) (
 some [.b false])) fun vs=>
 gC vs fun m2 fO=>
 gB m2 fun x=>
 gN fO<|
 some (.b x)
noncomputable def zX:Nat→List MV→Option MV:=bS 61 (gd iY) OW
theorem zY:aC Try.prog cx zX:=q9 Ig [] 23 [(1,⟨[1],[],[],[(0,[(2,.sc (.k .b))])],[]⟩)] [] [] Try.func61 (by kernel_rfl) (bU (fun _=>by kernel_rfl))
noncomputable def gV (sA me:MV):Option MV:=
 gA sA fun cs=>
 pe .i64 .i64 cs fun F T=>
 gI .i64 me fun Ih=>
 bd (
 bd (iY (.agg [.i .i64 F,.i .i64 T])) fun rA=>
 gB rA fun x=>
 aR (!x) (
 some [.b true]) (
 aR (decide (Ih<0)) (
 some [.b true]) (
 bd (tV (.agg [.i .i64 F,.i .i64 T])) fun bI=>
 gI .i64 bI fun x1=>
 some [.b (decide (x1≤Ih))]))) fun vs=>
 gC vs fun m2 fO=>
 gB m2 fun x2=>
 gN fO<|
 aR x2 (
 some (.dy [.agg (bh 0 0 0 0 false 0 ([]:List UInt8) ([]:List MV) ([]:List MV)),.i .i64 1])) (
 some (.dy [.agg (bh F T Ih 0 false 0 ([]:List UInt8) ([]:List MV) ([]:List MV)),.i .i64 0]))
noncomputable def vh:Nat→List MV→Option MV:=bS 13 (nd gV) zX
theorem wF:aC Try.prog cx vh:=q9 zY [] 23 [(1,⟨[1,2,4],[],[],[(0,[(18,.sc (.k .b))])],[]⟩)] [] [] Try.func13 (by kernel_rfl) (dq (fun _ _=>by kernel_rfl))
noncomputable def kF (a:MV):Option MV:=
 gA a fun cs=>
 bK .i64 .i64 .i64 .i64 .i64 cs fun SF ST Me View Has At Value Proof dw=>
 some (.agg (pT Me View Has At Value Proof))
noncomputable def td:Nat→List MV→Option MV:=bS 22 (gd kF) vh
theorem vi:aC Try.prog cx td:=q9 wF [] 16 [] [] [] Try.func22 (by kernel_rfl) (bU (fun _=>by kernel_rfl))
noncomputable def gm (a view:MV):Option MV:=
 gA a fun cs=>
 bK .i64 .i64 .i64 .i64 .i64 cs fun SF ST Me View Has At Value Proof dw=>
 gI .i64 view fun gn=>
 bd (
 aR (decide (gn≤View)) (
 some [.b true]) (
 some [.b (decide ((100000:Int)<gn))])) fun vs=>
 gC vs fun m9 mF=>
 gB m9 fun x=>
 gN mF<|
 aR x (
 some (.dy [.agg (bh SF ST Me View Has At Value Proof dw),.agg (pT 0 0 false 0 ([]:List UInt8) ([]:List MV)),.b false])) (
 bd (kF (.agg (bh SF ST Me gn Has At Value Proof ([]:List MV)))) fun rA=>
 gA rA fun iB=>
 cP .i64 .i64 .i64 iB fun By jW wG cV cj lm=>
 some (.dy [.agg (bh SF ST Me gn Has At Value Proof ([]:List MV)),.agg (pT By jW wG cV cj lm),.b true]))
noncomputable def ra:Nat→List MV→Option MV:=bS 52 (nd gm) td
theorem tX:aC Try.prog cx ra:=xZ vi [] [] 24 [] [] [] [(4,[0,1,2,3,4,5])] [(1,⟨[1,2,4,5],[],[],[(0,[(14,.sc (.k .b))])],[]⟩)] [] [] [] Try.func52 (by kernel_rfl) (dq (fun _ _=>by kernel_rfl))
noncomputable def sk (sA:MV):Option MV:=
 gA sA fun cs=>
 pe .i64 .i64 cs fun F T=>
 bd (gl (.agg [.i .i64 F,.i .i64 T]) (.raw (.complex .f64 4611686018427387904 4611686018427387904))) fun rA=>
 gI .i64 rA fun x=>
 some (.i .i64 x)
noncomputable def CM:Nat→List MV→Option MV:=bS 129 (gd sk) ra
theorem Bw:aC Try.prog cx CM:=q9 tX [] 5 [] [] [] Try.func129 (by kernel_rfl) (bU (fun _=>by kernel_rfl))
noncomputable def kn (sA:MV):Option MV:=
 gA sA fun cs=>
 pe .i64 .i64 cs fun F T=>
 bd (gl (.agg [.i .i64 F,.i .i64 T]) (.raw (.complex .f64 4611686018427387904 4607182418800017408))) fun rA=>
 gI .i64 rA fun x=>
 some (.i .i64 x)
noncomputable def zZ:Nat→List MV→Option MV:=bS 46 (gd kn) CM
theorem z1:aC Try.prog cx zZ:=q9 Bw [] 5 [] [] [] Try.func46 (by kernel_rfl) (bU (fun _=>by kernel_rfl))
noncomputable def lX (a:MV):Option MV:=
 gA a fun cs=>
 dv .i64 .i64 cs fun By View Value=>
 bd (
 aR (decide ((0:Int)≤By)) (
 aR (decide ((0:Int)≤View)) (
 aR (decide (View≤100000)) (
 some [.b (decide ((Value.length:Int)≤6000))]) (
 some [.b false])) (
 some [.b false])) (
 some [.b false])) fun vs=>
 gC vs fun m3 pU=>
 gB m3 fun x=>
 gN pU<|
 some (.b x)
noncomputable def CN:Nat→List MV→Option MV:=bS 96 (gd lX) zZ
theorem Bx:aC Try.prog cx CN:=q9 z1 [] 22 [(1,⟨[1],[],[],[(0,[(2,.sc (.k .b))])],[]⟩)] [] [] Try.func96 (by kernel_rfl) (bU (fun _=>by kernel_rfl))
noncomputable def nJ (t:MV):Option MV:=
 gA t fun cs=>
 gC cs fun m wD=>
 gL m fun L=>
 gN wD<|
 cI L fun len=>
 bd (Loop (fun wE=>
 gC wE fun m1 fO=>
 gI .i64 m1 fun x=>
 gN fO<|
 aR (decide (x<(len:Int))) (
 idx L x fun y=>
 gA y fun iB=>
 dv .i64 .i64 iB fun By View Value=>
 bd (
 bd (lX (.agg [.i .i64 By,.i .i64 View,.s Value])) fun rA=>
 gB rA fun x1=>
 aR (!x1) (
 some [.b true]) (
 aR (decide ((0:Int)<x)) (
 idx L (IntKind.wrap .i64 (x-1)) fun y1=>
 gA y1 fun lp=>
 dv .i64 .i64 lp fun z6 cV cj=>
 some [.b (decide (By≤z6))]) (
 some [.b false]))) fun vs=>
 gC vs fun m8 mF=>
 gB m8 fun x2=>
 gN mF<|
 aR x2 (
 some (.inr (1,[.b false]))) (
 some (.inl [.i .i64 (IntKind.wrap .i64 (x+1))]))) (
 some (.inr (2,[])))) [.i .i64 0]) fun p=>
 aR (Nat.beq p.1 2) (
 gN p.2<|
 some (.b true)) (
 cE (Nat.beq p.1 1)<|
 gC p.2 fun m9 oW=>
 gB m9 fun x3=>
 gN oW<|
 some (.b x3))
noncomputable def xD:Nat→List MV→Option MV:=bS 66 (gd nJ) CN
theorem yb:aC Try.prog cx xD:=xZ Bx [] [] 33 [] [] [] [(4,[0,1,2,3,4,5,6,7,8,9,10,11,12,13,14,15,16,17,18])] [(4,⟨[1,3,4,6,7,8],[],[],[(0,[(31,.sc (.k .b))])],[]⟩)] [] [(2,⟨[1,6,7],[],[(8,.sc (.k (.i .i64)))],[(1,[(2,.sc (.k .b))]),(2,[])],[]⟩)] [] Try.func66 (by kernel_rfl) (bU (fun _=>by kernel_rfl))
noncomputable def jI (t view value:MV):Option MV:=
 gA t fun cs=>
 gC cs fun m wD=>
 gL m fun L=>
 gN wD<|
 gI .i64 view fun gn=>
 gS value fun ko=>
 cI L fun len=>
 bd (Loop (fun wE=>
 vf .i64 wE fun out x=>
 aR (decide (x<(len:Int))) (
 idx L x fun y=>
 gA y fun iB=>
 dv .i64 .i64 iB fun By View Value=>
 bd (
 aR (decide (View=gn)) (
 some [.b (decide (Value=ko))]) (
 some [.b false])) fun vs=>
 gC vs fun m6 OX=>
 gB m6 fun x1=>
 gN OX<|
 bd (
 aR x1 (
 cI out fun dY=>
 cI ([.agg [.i .i64 By,.i .i64 View,.s Value]]:List MV) fun sK=>
 cE (decide ((dY+sK) *32≤2^46))<|
 some (0,[.list (out++([.agg [.i .i64 By,.i .i64 View,.s Value]]:List MV))])) (
 some (0,[.list out]))) fun p1=>
 cE (Nat.beq p1.1 0)<|
 gC p1.2 fun m7 z7=>
 gL m7 fun UN=>
 gN z7<|
 some (.inl [.list UN,.i .i64 (IntKind.wrap .i64 (x+1))])) (
 some (.inr (2,[.list out])))) [.list ([]:List MV),.i .i64 0]) fun p=>
 cE (Nat.beq p.1 2)<|
 gC p.2 fun m8 mF=>
 gL m8 fun acj=>
 gN mF<|
 some (.list acj)
noncomputable def vj:Nat→List MV→Option MV:=bS 119 (Ee jI) xD
theorem wH:aC Try.prog cx vj:=xZ yb [] [] 33 [29] [] [] [] [(5,⟨[1,2,7,9,11,12,13],[30],[],[(0,[(26,.sc (.k .b))])],[30]⟩)] [(6,⟨[1,2,9,11,12,13],[],[],[(0,[(7,.sc (.own 30 72 true))])],[30]⟩)] [(3,⟨[1,2,11,12],[],[(7,.sc (.own 30 72 true)),(13,.sc (.k (.i .i64)))],[(2,[(7,.sc (.own 30 72 true))])],[30]⟩)] [] Try.func119 (by kernel_rfl) (pP (fun _ _ _=>by kernel_rfl))
noncomputable def nK (t view value:MV):Option MV:=
 gA t fun cs=>
 gC cs fun m wD=>
 gL m fun L=>
 gN wD<|
 gI .i64 view fun gn=>
 gS value fun ko=>
 bd (jI (.agg [.list L]) (.i .i64 gn) (.s ko)) fun rA=>
 gL rA fun x=>
 cI x fun len=>
 some (.i .i64 (len:Int))
noncomputable def xE:Nat→List MV→Option MV:=bS 110 (Ee nK) vj
theorem yc:aC Try.prog cx xE:=q9 wH [] 12 [] [] [] Try.func110 (by kernel_rfl) (pP (fun _ _ _=>by kernel_rfl))
noncomputable def kU (sA p:MV):Option MV:=
 gA sA fun cs=>
 pe .i64 .i64 cs fun F T=>
 gL p fun p1=>
 bd (
 bd (iY (.agg [.i .i64 F,.i .i64 T])) fun rA=>
 gB rA fun x=>
 aR (!x) (
 some [.b true]) (
 cI p1 fun len=>
 bd (kn (.agg [.i .i64 F,.i .i64 T])) fun bI=>
 gI .i64 bI fun x1=>
 aR (!decide ((len:Int)=x1)) (
 some [.b true]) (
 bd (nJ (.agg [.list p1])) fun cJ=>
 gB cJ fun x2=>
 some [.b (!x2)]))) fun vs=>
 gC vs fun m2 fO=>
 gB m2 fun x3=>
 gN fO<|
 aR x3 (
 some (.b false)) (
 bd (
 cI p1 fun dY=>
 idx p1 (IntKind.wrap .i64 ((dY:Int)-1)) fun y=>
 gA y fun iB=>
 dv .i64 .i64 iB fun By View Value=>
 bd (tV (.agg [.i .i64 F,.i .i64 T])) fun dL=>
 gI .i64 dL fun x4=>
 aR (decide (By<x4)) (
 idx p1 0 fun y1=>
 gA y1 fun lp=>
 dv .i64 .i64 lp fun z6 cV cj=>
 idx p1 0 fun y2=>
 gA y2 fun kf=>
 dv .i64 .i64 kf fun Ii mG gp=>
 cI p1 fun sK=>
 bd (nK (.agg [.list p1]) (.i .i64 cV) (.s gp)) fun jX=>
 gI .i64 jX fun x5=>
 some [.b (decide (x5=(sK:Int)))]) (
 some [.b false])) fun iO=>
 gC iO fun Ij kV=>
 gB Ij fun x6=>
 gN kV<|
 some (.b x6))
noncomputable def xF:Nat→List MV→Option MV:=bS 88 (nd kU) xE
theorem yd:aC Try.prog cx xF:=xZ yc [] [] 47 [] [] [] [(3,[0,1,2,3,4,5,6,7,8,9,10,11,12,13,14,15,16,17,18,19,20,22,23,21,24,25,26])] [(3,⟨[1,2],[],[],[(0,[(4,.sc (.k .b))])],[]⟩),(1,⟨[1,2],[],[],[(0,[(20,.sc (.k .b))])],[]⟩)] [] [] [] Try.func88 (by kernel_rfl) (dq (fun _ _=>by kernel_rfl))
noncomputable def oX (p:MV):Option MV:=
 gL p fun p1=>
 cI p1 fun len=>
 aR (decide ((len:Int)=0)) (
 some (.dy [.i .i64 (-1),.s ([]:List UInt8),.b false])) (
 idx p1 0 fun y=>
 gA y fun cs=>
 dv .i64 .i64 cs fun By View Value=>
 idx p1 0 fun y1=>
 gA y1 fun iB=>
 dv .i64 .i64 iB fun z6 cV cj=>
 some (.dy [.i .i64 View,.s cj,.b true]))
noncomputable def Gg:Nat→List MV→Option MV:=bS 80 (gd oX) xF
theorem Ej:aC Try.prog cx Gg:=xZ yd [] [] 16 [] [] [] [(3,[0,1,2,3,4,5,6,7,8,9,10])] [] [] [] [] Try.func80 (by kernel_rfl) (bU (fun _=>by kernel_rfl))
noncomputable def iK (rA:MV):Option MV:=
 gA rA fun cs=>
 cP .i64 .i64 .i64 cs fun By jW Has View Value Proof=>
 bd (oX (.list Proof)) fun bI=>
 gT bI fun vs=>
 Eh .i64 vs fun x x1 x2=>
 aR (!x2) (
 some (.i .i64 (-1))) (
 some (.i .i64 x))
noncomputable def te:Nat→List MV→Option MV:=bS 131 (gd iK) Gg
theorem vl:aC Try.prog cx te:=q9 Ej [] 16 [] [] [] Try.func131 (by kernel_rfl) (bU (fun _=>by kernel_rfl))
noncomputable def pV (a a1:MV):Option MV:=
 gA a fun cs=>
 pe .i64 .i64 cs fun F T=>
 gA a1 fun iB=>
 cP .i64 .i64 .i64 iB fun By jW Has View Value Proof=>
 bd (
 bd (iY (.agg [.i .i64 F,.i .i64 T])) fun rA=>
 gB rA fun x=>
 aR (!x) (
 some [.b true]) (
 aR (decide (By<0)) (
 some [.b true]) (
 bd (tV (.agg [.i .i64 F,.i .i64 T])) fun bI=>
 gI .i64 bI fun x1=>
 aR (decide (x1≤By)) (
 some [.b true]) (
 aR (decide (jW<1)) (
 some [.b true]) (
 some [.b (decide ((100000:Int)<jW))]))))) fun vs=>
 gC vs fun m8 z7=>
 gB m8 fun x2=>
 gN z7<|
 aR x2 (
 some (.b false)) (
 bd (
 aR (!Has) (
 aR (!decide (View=0)) (
 some [.b true]) (
 some [.b (!decide (Value=([]:List UInt8)))])) (
 some [.b false])) fun iO=>
 gC iO fun m9 mF=>
 gB m9 fun x3=>
 gN mF<|
 aR x3 (
 some (.b false)) (
 bd (
 aR Has (
 aR (decide (View<0)) (
 some [.b true]) (
 aR (decide (jW≤View)) (
 some [.b true]) (
 some [.b (decide ((6000:Int)<(Value.length:Int)))]))) (
 some [.b false])) fun pH=>
 gC pH fun RB oW=>
 gB RB fun x4=>
 gN oW<|
 aR x4 (
 some (.b false)) (
 bd (
 cI Proof fun len=>
 aR (decide ((len:Int)=0)) (
 some [.b true]) (
 bd (kU (.agg [.i .i64 F,.i .i64 T]) (.list Proof)) fun cJ=>
 gB cJ fun x5=>
 aR x5 (
 bd (iK (.agg (pT By jW Has View Value Proof))) fun dL=>
 gI .i64 dL fun x6=>
 some [.b (decide (x6<jW))]) (
 some [.b false]))) fun OY=>
 gC OY fun Lk vm=>
 gB Lk fun x7=>
 gN vm<|
 some (.b x7))))
noncomputable def z8:Nat→List MV→Option MV:=bS 130 (nd pV) te
theorem Aa:aC Try.prog cx z8:=xZ vl [] [] 83 [] [] [] [(1,[0,1,2,3,4,5,6,7,8,9,10,11,12,13,14,15,16,17,18,19,20,21,22,23,24,25]),(7,[0,1,2,3,4,5,6,7,8,9,10,12,13,11,14,15,16,17])] [(7,⟨[2,3],[],[],[(0,[(4,.sc (.k .b))])],[]⟩),(5,⟨[2,3],[],[],[(0,[(45,.sc (.k .b))])],[]⟩),(3,⟨[2,3],[],[],[(0,[(31,.sc (.k .b))])],[]⟩),(1,⟨[2,3],[],[],[(0,[(5,.sc (.k .b))])],[]⟩)] [] [] [] Try.func130 (by kernel_rfl) (dq (fun _ _=>by kernel_rfl))
noncomputable def lN (sA view lA:MV):Option MV:=
 gA sA fun cs=>
 pe .i64 .i64 cs fun F T=>
 gI .i64 view fun gn=>
 gL lA fun zV=>
 bd (
 bd (iY (.agg [.i .i64 F,.i .i64 T])) fun rA=>
 gB rA fun x=>
 aR (!x) (
 some [.b true]) (
 cI zV fun len=>
 bd (sk (.agg [.i .i64 F,.i .i64 T])) fun bI=>
 gI .i64 bI fun x1=>
 some [.b (!decide ((len:Int)=x1))])) fun vs=>
 gC vs fun m2 fO=>
 gB m2 fun x2=>
 gN fO<|
 aR x2 (
 some (.b false)) (
 cI zV fun dY=>
 bd (Loop (fun pU=>
 pe .i64 .i64 pU fun last x3=>
 aR (decide (x3<(dY:Int))) (
 idx zV x3 fun y=>
 gA y fun iB=>
 cP .i64 .i64 .i64 iB fun By jW Has View Value Proof=>
 bd (
 bd (pV (.agg [.i .i64 F,.i .i64 T]) (.agg (pT By jW Has View Value Proof))) fun cJ=>
 gB cJ fun x4=>
 aR (!x4) (
 some [.b true]) (
 aR (!decide (jW=gn)) (
 some [.b true]) (
 some [.b (decide (By≤last))]))) fun iO=>
 gC iO fun Lk kV=>
 gB Lk fun x5=>
 gN kV<|
 aR x5 (
 some (.inr (1,[.b false]))) (
 some (.inl [.i .i64 By,.i .i64 (IntKind.wrap .i64 (x3+1))]))) (
 some (.inr (2,[])))) [.i .i64 (-1),.i .i64 0]) fun p=>
 aR (Nat.beq p.1 2) (
 gN p.2<|
 some (.b true)) (
 cE (Nat.beq p.1 1)<|
 gC p.2 fun Ij mH=>
 gB Ij fun x6=>
 gN mH<|
 some (.b x6)))
noncomputable def vn:Nat→List MV→Option MV:=bS 112 (Ee lN) z8
theorem wI:aC Try.prog cx vn:=q9 Aa [] 45 [(7,⟨[1,3,7,9,20,21,22],[],[],[(0,[(41,.sc (.k .b))])],[]⟩),(1,⟨[1,2,3],[],[],[(0,[(19,.sc (.k .b))])],[]⟩)] [] [(5,⟨[1,3,20,21],[],[(7,.sc (.k (.i .i64))),(22,.sc (.k (.i .i64)))],[(1,[(6,.sc (.k .b))]),(2,[])],[]⟩)] Try.func112 (by kernel_rfl) (pP (fun _ _ _=>by kernel_rfl))
noncomputable def pW (sA:MV):Option MV:=
 gA sA fun cs=>
 pe .i64 .i64 cs fun F T=>
 bd (gl (.agg [.i .i64 F,.i .i64 T]) (.raw (.complex .f64 4607182418800017408 4607182418800017408))) fun rA=>
 gI .i64 rA fun x=>
 some (.i .i64 x)
noncomputable def Ab:Nat→List MV→Option MV:=bS 132 (gd pW) vn
theorem Ac:aC Try.prog cx Ab:=q9 wI [] 5 [] [] [] Try.func132 (by kernel_rfl) (bU (fun _=>by kernel_rfl))
noncomputable def lO (a a1:MV):Option MV:=
 gA a fun cs=>
 pe .i64 .i64 cs fun F T=>
 gL a1 fun gX=>
 cI gX fun len=>
 bd (Loop (fun fO=>
 gC fO fun m2 pU=>
 gI .i64 m2 fun x=>
 gC pU fun m3 rb=>
 gS m3 fun x1=>
 gC rb fun m4 zW=>
 gI .i64 m4 fun x2=>
 gN zW<|
 aR (decide (x2<(len:Int))) (
 idx gX x2 fun y=>
 gA y fun iB=>
 cP .i64 .i64 .i64 iB fun By jW Has View Value Proof=>
 bd (iK (.agg (pT By jW Has View Value Proof))) fun rA=>
 gI .i64 rA fun x3=>
 bd (
 aR (decide (x<x3)) (
 idx Proof 0 fun y1=>
 gA y1 fun lp=>
 dv .i64 .i64 lp fun z6 cV cj=>
 some (0,[.i .i64 x3,.s cj])) (
 some (0,[.i .i64 x,.s x1]))) fun p1=>
 cE (Nat.beq p1.1 0)<|
 gC p1.2 fun Ik mI=>
 gI .i64 Ik fun x4=>
 gC mI fun OZ rc=>
 gS OZ fun x5=>
 gN rc<|
 some (.inl [.i .i64 x4,.s x5,.i .i64 (IntKind.wrap .i64 (x2+1))])) (
 some (.inr (2,[.i .i64 x,.s x1])))) [.i .i64 (-1),.s ([]:List UInt8),.i .i64 0]) fun p=>
 cE (Nat.beq p.1 2)<|
 gC p.2 fun O0 rf=>
 gI .i64 O0 fun x6=>
 gC rf fun Ll rh=>
 gS Ll fun x7=>
 gN rh<|
 cI gX fun dY=>
 bd (Loop (fun rj=>
 vf .i64 rj fun es x8=>
 aR (decide (x8<(dY:Int))) (
 idx gX x8 fun y2=>
 gA y2 fun kf=>
 cP .i64 .i64 .i64 kf fun Ii RC wG mG gp lm=>
 bd (
 aR wG (
 some [.b (decide (x6<mG))]) (
 some [.b false])) fun vs=>
 gC vs fun UO O1=>
 gB UO fun x9=>
 gN O1<|
 bd (
 aR x9 (
 some (0,[.list (lC (gz es ([.s gp]:List MV) (.i .i64 0)) (bE es ([.s gp]:List MV)) (.i .i64 (IntKind.wrap .i64 ((hU es ([.s gp]:List MV))+1))))])) (
 some (0,[.list es]))) fun p3=>
 cE (Nat.beq p3.1 0)<|
 gC p3.2 fun m27 Ad=>
 gL m27 fun V1=>
 gN Ad<|
 some (.inl [.list V1,.i .i64 (IntKind.wrap .i64 (x8+1))])) (
 some (.inr (4,[.list es])))) [.list ([]:List MV),.i .i64 0]) fun p2=>
 cE (Nat.beq p2.1 4)<|
 gC p2.2 fun UP Ae=>
 gL UP fun TL=>
 gN Ae<|
 bd (lk (fun Ia=>D8 Ia fun key n=>
 bd (pW (.agg [.i .i64 F,.i .i64 T])) fun bI=>
 gI .i64 bI fun EU=>
 aR (decide (EU≤n)) (
 some (.inr (1,[.s key,.b true]))) (
 some (.inl ()))) (
 some (6,[])) TL) fun p4=>
 aR (Nat.beq p4.1 6) (
 gN p4.2<|
 some (.dy [.s x7,.b (decide (((-1):Int)<x6))])) (
 cE (Nat.beq p4.1 1)<|
 gC p4.2 fun Yu Gh=>
 gS Yu fun Bd=>
 gC Gh fun Yv Gi=>
 gB Yv fun Il=>
 gN Gi<|
 some (.dy [.s Bd,.b Il]))
noncomputable def vo:Nat→List MV→Option MV:=bS 113 (nd lO) Ab
theorem wJ:aC Try.prog cx vo:=ZW Ac [] [] 70 [] [] [] [(7,[0,1,2,3,4,5,6,7])] [(13,⟨[2,6,7,11,13,35,36,37],[],[],[(0,[(48,.sc (.k .b))])],[]⟩)] [(14,⟨[2,6,7,13,35,36,37],[],[],[(0,[(11,.mp ⟨false,[.s],false⟩)])],[]⟩),(7,⟨[1,2,9,10,16,17,18],[],[],[(0,[(6,.sc (.k (.i .i64))),(7,.sc (.k .s))])],[]⟩)] [(17,⟨[2,6,7,11,56],[],[],[(1,[(4,.sc (.k .s)),(5,.sc (.k .b))]),(6,[])],[]⟩),(11,⟨[2,6,7,35,36],[],[(11,.mp ⟨false,[.s],false⟩),(37,.sc (.k (.i .i64)))],[(4,[(11,.mp ⟨false,[.s],false⟩)])],[]⟩),(3,⟨[1,2,16,17],[],[(6,.sc (.k (.i .i64))),(7,.sc (.k .s)),(18,.sc (.k (.i .i64)))],[(2,[(6,.sc (.k (.i .i64))),(7,.sc (.k .s))])],[]⟩)] [] Try.func113 (by kernel_rfl) (dq (fun _ _=>by kernel_rfl))
noncomputable def jJ (sA view lA value:MV):Option MV:=
 gA sA fun cs=>
 pe .i64 .i64 cs fun F T=>
 gI .i64 view fun gn=>
 gL lA fun zV=>
 gS value fun ko=>
 bd (lN (.agg [.i .i64 F,.i .i64 T]) (.i .i64 gn) (.list zV)) fun rA=>
 gB rA fun x=>
 aR (!x) (
 some (.b false)) (
 bd (lO (.agg [.i .i64 F,.i .i64 T]) (.list zV)) fun bI=>
 gT bI fun vs=>
 gC vs fun m2 fO=>
 gS m2 fun x1=>
 gC fO fun m3 pU=>
 gB m3 fun x2=>
 gN pU<|
 bd (
 aR (!x2) (
 some [.b true]) (
 some [.b (decide (x1=ko))])) fun iO=>
 gC iO fun m4 rb=>
 gB m4 fun x3=>
 gN rb<|
 some (.b x3))
noncomputable def rk:Nat→List MV→Option MV:=bS 93 (OE jJ) vo
theorem tY:aC Try.prog cx rk:=q9 wJ [] 29 [(4,⟨[3,9,10],[],[],[(0,[(8,.sc (.k .b))])],[]⟩)] [] [] Try.func93 (by kernel_rfl) (Ef (fun _ _ _ _=>by kernel_rfl))
noncomputable def dK (a view value eP:MV):Option MV:=
 gA a fun cs=>
 bK .i64 .i64 .i64 .i64 .i64 cs fun SF ST Me View Has At Value Proof dw=>
 gI .i64 view fun gn=>
 gS value fun ko=>
 gL eP fun SV=>
 bd (
 aR (!decide (gn=View)) (
 some [.b true]) (
 aR Has (
 aR (decide (At=gn)) (
 some [.b true]) (
 some [.b (decide ((6000:Int)<(ko.length:Int)))])) (
 some [.b (decide ((6000:Int)<(ko.length:Int)))]))) fun vs=>
 gC vs fun m9 mF=>
 gB m9 fun x=>
 gN mF<|
 aR x (
 some (.dy [.agg (bh SF ST Me View Has At Value Proof dw),.agg [.i .i64 0,.i .i64 0,.s ([]:List UInt8)],.b false])) (
 bd (
 aR (decide (gn=0)) (
 cI SV fun len=>
 some [.b (decide ((len:Int)=0))]) (
 some [.b false])) fun iO=>
 gC iO fun RB oW=>
 gB RB fun x1=>
 gN oW<|
 bd (
 aR x1 (
 some (0,[.i .i64 0,.i .i64 0,.i .i64 0,.i .i64 0,.b false,.i .i64 0,.s ([]:List UInt8),.list ([]:List MV),.list ([]:List MV),.i .i64 0,.i .i64 0,.s ([]:List UInt8)])) (
 bd (jJ (.agg [.i .i64 SF,.i .i64 ST]) (.i .i64 gn) (.list SV) (.s ko)) fun rA=>
 gB rA fun x2=>
 aR (!x2) (
 some (1,[.i .i64 SF,.i .i64 ST,.i .i64 Me,.i .i64 View,.b Has,.i .i64 At,.s Value,.list Proof,.list dw,.i .i64 0,.i .i64 0,.s ([]:List UInt8),.b false])) (
 some (0,[.i .i64 0,.i .i64 0,.i .i64 0,.i .i64 0,.b false,.i .i64 0,.s ([]:List UInt8),.list ([]:List MV),.list ([]:List MV),.i .i64 0,.i .i64 0,.s ([]:List UInt8)])))) fun p=>
 aR (Nat.beq p.1 1) (
 gC p.2 fun Lk vm=>
 gI .i64 Lk fun x3=>
 gC vm fun Ij kV=>
 gI .i64 Ij fun x4=>
 gC kV fun O2 mH=>
 gI .i64 O2 fun x5=>
 gC mH fun Ik Af=>
 gI .i64 Ik fun x6=>
 gC Af fun OZ mI=>
 gB OZ fun x7=>
 gC mI fun O0 rc=>
 gI .i64 O0 fun x8=>
 gC rc fun Ll rf=>
 gS Ll fun x9=>
 gC rf fun UQ rh=>
 gL UQ fun EU=>
 gC rh fun UR rj=>
 gL UR fun Bd=>
 gC rj fun Yw Ag=>
 gI .i64 Yw fun Il=>
 Eh .i64 Ag fun EV O3 Lm=>
 some (.dy [.agg (bh x3 x4 x5 x6 x7 x8 x9 EU Bd),.agg [.i .i64 Il,.i .i64 EV,.s O3],.b Lm])) (
 cE (Nat.beq p.1 0)<|
 gC p.2 fun m24 O4=>
 gI .i64 m24 fun RD=>
 gC O4 fun US vp=>
 gI .i64 US fun Mj=>
 gC vp fun UO Ah=>
 gI .i64 UO fun ZY=>
 gC Ah fun m27 O5=>
 gI .i64 m27 fun ZZ=>
 gC O5 fun UP O1=>
 gB UP fun x20=>
 gC O1 fun Ia Ad=>
 gI .i64 Ia fun x21=>
 gC Ad fun Yu Ae=>
 gS Yu fun x22=>
 gC Ae fun Yv Gh=>
 gL Yv fun x23=>
 gC Gh fun m32 Gi=>
 gL m32 fun x24=>
 dv .i64 .i64 Gi fun x25 x26 x27=>
 some (.dy [.agg (bh SF ST Me View true gn ko Proof dw),.agg [.i .i64 Me,.i .i64 gn,.s ko],.b true])))
noncomputable def oY:Nat→List MV→Option MV:=bS 54 (OE dK) rk
theorem rl:aC Try.prog cx oY:=xZ tY [] [] 62 [] [58] [(7,[4])] [(7,[0,1,2,3,4,5,6,7,8])] [(3,⟨[1,2,3,4,8,9],[],[],[(0,[(33,.sc (.k .b))])],[]⟩),(1,⟨[1,2,3,4,8,9],[],[],[(0,[(11,.sc (.k .b))])],[]⟩)] [(4,⟨[1,2,3,4],[],[],[(0,[(8,.box [.k (.i .i64),.k (.i .i64),.k (.i .i64),.k (.i .i64),.k .b,.k (.i .i64),.k .s,.k .l,.k .l]),(9,.box [.k (.i .i64),.k (.i .i64),.k .s])]),(1,[(8,.box [.k (.i .i64),.k (.i .i64),.k (.i .i64),.k (.i .i64),.k .b,.k (.i .i64),.k .s,.k .l,.k .l]),(9,.box [.k (.i .i64),.k (.i .i64),.k .s]),(10,.sc (.k .b))])],[]⟩)] [] [] Try.func54 (by kernel_rfl) (Ef (fun _ _ _ _=>by kernel_rfl))
noncomputable def lY:Option MV:=
 bd (gV (.agg [.i .i64 1,.i .i64 0]) (.i .i64 2)) fun rA=>
 gT rA fun vs=>
 gC vs fun m wD=>
 gA m fun cs=>
 bK .i64 .i64 .i64 .i64 .i64 cs fun SF ST Me View Has At Value Proof dw=>
 gC wD fun RB oW=>
 gI .i64 RB fun x=>
 gN oW<|
 bd (dK (.agg (bh SF ST Me View Has At Value Proof dw)) (.i .i64 0) (.s ([120]:List UInt8)) (.list ([]:List MV))) fun bI=>
 gT bI fun iO=>
 gC iO fun Lk vm=>
 gA Lk fun iB=>
 bK .i64 .i64 .i64 .i64 .i64 iB fun Yx Yy Yz cV wG YA cj lm vq=>
 gC vm fun UT vt=>
 gA UT fun lp=>
 dv .i64 .i64 lp fun By mG gp=>
 gC vt fun US vp=>
 gB US fun x1=>
 gN vp<|
 bd (dK (.agg (bh Yx Yy Yz cV wG YA cj lm vq)) (.i .i64 0) (.s ([121]:List UInt8)) (.list ([]:List MV))) fun cJ=>
 gT cJ fun pH=>
 gC pH fun UO Ah=>
 gA UO fun kf=>
 bK .i64 .i64 .i64 .i64 .i64 kf fun SF2 ST2 Me2 CO O6 At2 Ai wK JV=>
 gC Ah fun m36 O7=>
 gA m36 fun O8=>
 dv .i64 .i64 O8 fun z6 CP Ek=>
 gC O7 fun m40 O9=>
 gB m40 fun x2=>
 gN O9<|
 bd (gm (.agg (bh Yx Yy Yz cV wG YA cj lm vq)) (.i .i64 3)) fun dL=>
 gT dL fun OY=>
 gC OY fun m41 YB=>
 gA m41 fun YC=>
 bK .i64 .i64 .i64 .i64 .i64 YC fun SF3 ST3 Me3 xG Pa At3 wL El JW=>
 gC YB fun m51 YD=>
 gA m51 fun YE=>
 cP .i64 .i64 .i64 YE fun Ii jW UU Pb Aj Im=>
 gC YD fun m58 YF=>
 gB m58 fun x3=>
 gN YF<|
 bd (
 aR (decide (x=0)) (
 aR x1 (
 aR (!x2) (
 aR x3 (
 aR (decide (By=2)) (
 aR (decide (gp=([120]:List UInt8))) (
 aR (decide (xG=3)) (
 aR (decide (jW=3)) (
 some [.b (decide (Aj=([120]:List UInt8)))]) (
 some [.b false])) (
 some [.b false])) (
 some [.b false])) (
 some [.b false])) (
 some [.b false])) (
 some [.b false])) (
 some [.b false])) (
 some [.b false])) fun UW=>
 gC UW fun m59 YG=>
 gB m59 fun x4=>
 gN YG<|
 some (.b x4)
noncomputable def CQ:Nat→List MV→Option MV:=bS 12 (UI lY) oY
theorem Bz:aC Try.prog cx CQ:=q9 rl [] 71 [(5,⟨[2,3,4,7,8,9,10],[],[],[(0,[(0,.sc (.k .b))])],[]⟩)] [] [] Try.func12 (by kernel_rfl) (Rs (by kernel_rfl))
noncomputable def kp (sA:MV):Option MV:=
 gA sA fun cs=>
 pe .i64 .i64 cs fun F T=>
 bd (
 aR (decide ((1:Int)≤F)) (
 aR (decide (F≤5)) (
 aR (decide ((0:Int)≤T)) (
 some [.b (decide (T≤F))]) (
 some [.b false])) (
 some [.b false])) (
 some [.b false])) fun vs=>
 gC vs fun m2 fO=>
 gB m2 fun x=>
 gN fO<|
 some (.b x)
noncomputable def CR:Nat→List MV→Option MV:=bS 62 (gd kp) CQ
theorem BA:aC Try.prog cx CR:=q9 Bz [] 23 [(1,⟨[1],[],[],[(0,[(2,.sc (.k .b))])],[]⟩)] [] [] Try.func62 (by kernel_rfl) (bU (fun _=>by kernel_rfl))
noncomputable def Ak (sA:MV):Option MV:=
 gA sA fun cs=>
 pe .i64 .i64 cs fun F T=>
 some (.i .i64 (IntKind.wrap .i64 ((IntKind.wrap .i64 ((IntKind.wrap .i64 (3 *F))+(IntKind.wrap .i64 (2 *T))))+1)))
noncomputable def SW:Nat→List MV→Option MV:=bS 63 (gd Ak) CR
theorem Ln:aC Try.prog cx SW:=q9 BA [] 11 [] [] [] Try.func63 (by kernel_rfl) (bU (fun _=>by kernel_rfl))
noncomputable def yv (sA me:MV):Option MV:=
 gA sA fun cs=>
 pe .i64 .i64 cs fun F T=>
 gI .i64 me fun Ih=>
 bd (
 bd (kp (.agg [.i .i64 F,.i .i64 T])) fun rA=>
 gB rA fun x=>
 aR (!x) (
 some [.b true]) (
 aR (decide (Ih<0)) (
 some [.b true]) (
 bd (Ak (.agg [.i .i64 F,.i .i64 T])) fun bI=>
 gI .i64 bI fun x1=>
 some [.b (decide (x1≤Ih))]))) fun vs=>
 gC vs fun m2 fO=>
 gB m2 fun x2=>
 gN fO<|
 aR x2 (
 some (.dy [.agg (bh 0 0 0 0 false 0 ([]:List UInt8) ([]:List MV) ([]:List MV)),.i .i64 1])) (
 some (.dy [.agg (bh F T Ih 0 false 0 ([]:List UInt8) ([]:List MV) ([]:List MV)),.i .i64 0]))
noncomputable def JX:Nat→List MV→Option MV:=bS 14 (nd yv) SW
theorem Gj:aC Try.prog cx JX:=q9 Ln [] 23 [(1,⟨[1,2,4],[],[],[(0,[(18,.sc (.k .b))])],[]⟩)] [] [] Try.func14 (by kernel_rfl) (dq (fun _ _=>by kernel_rfl))
noncomputable def oZ (sA:MV):Option MV:=
 gA sA fun cs=>
 pe .i64 .i64 cs fun F T=>
 some (.agg [.i .i64 F,.i .i64 T])
noncomputable def CS:Nat→List MV→Option MV:=bS 15 (gd oZ) JX
theorem BB:aC Try.prog cx CS:=q9 Gj [] 8 [] [] [] Try.func15 (by kernel_rfl) (bU (fun _=>by kernel_rfl))
noncomputable def sm (a:MV):Option MV:=
 gA a fun cs=>
 bK .i64 .i64 .i64 .i64 .i64 cs fun SF ST Me View Has At Value Proof dw=>
 bd (oZ (.agg [.i .i64 SF,.i .i64 ST])) fun rA=>
 gA rA fun iB=>
 pe .i64 .i64 iB fun F T=>
 some (.agg (bh F T Me View Has At Value Proof dw))
noncomputable def CT:Nat→List MV→Option MV:=bS 17 (gd sm) CS
theorem BC:aC Try.prog cx CT:=xZ BB [] [] 23 [] [] [] [(1,[0,1,3,4,5,6,7,8,9,10,11,12,13,14,15,16,17,18,2,19,20])] [] [] [] [] Try.func17 (by kernel_rfl) (bU (fun _=>by kernel_rfl))
noncomputable def dB (a:MV):Option MV:=
 gA a fun cs=>
 bK .i64 .i64 .i64 .i64 .i64 cs fun SF ST Me View Has At Value Proof dw=>
 bd (
 aR (decide (View<0)) (
 some [.b true]) (
 some [.b (decide ((100000:Int)<View))])) fun vs=>
 gC vs fun m9 mF=>
 gB m9 fun x=>
 gN mF<|
 aR x (
 some (.b false)) (
 bd (
 aR Has (
 aR (decide (At<0)) (
 some [.b true]) (
 aR (decide (View<At)) (
 some [.b true]) (
 some [.b (decide ((6000:Int)<(Value.length:Int)))]))) (
 some [.b false])) fun iO=>
 gC iO fun RB oW=>
 gB RB fun x1=>
 gN oW<|
 aR x1 (
 some (.b false)) (
 bd (
 aR (!Has) (
 aR (!decide (At=0)) (
 some [.b true]) (
 some [.b (!decide (Value=([]:List UInt8)))])) (
 some [.b false])) fun pH=>
 gC pH fun Lk vm=>
 gB Lk fun x2=>
 gN vm<|
 aR x2 (
 some (.b false)) (
 bd (
 cI Proof fun len=>
 aR (decide ((len:Int)=0)) (
 some [.b true]) (
 bd (kU (.agg [.i .i64 SF,.i .i64 ST]) (.list Proof)) fun rA=>
 gB rA fun x3=>
 aR x3 (
 idx Proof 0 fun y=>
 gA y fun iB=>
 dv .i64 .i64 iB fun By cV cj=>
 some [.b (decide (cV≤View))]) (
 some [.b false]))) fun OY=>
 gC OY fun OZ mI=>
 gB OZ fun x4=>
 gN mI<|
 some (.b x4))))
noncomputable def jK:Nat→List MV→Option MV:=bS 65 (gd dB) CT
theorem mJ:aC Try.prog cx jK:=xZ BC [] [] 68 [] [] [] [(7,[0,1,2,3,4,5,6,7,8,9,10,11,12,13,14,15,16,17,18,19,20,21])] [(7,⟨[1],[],[],[(0,[(2,.sc (.k .b))])],[]⟩),(5,⟨[1],[],[],[(0,[(33,.sc (.k .b))])],[]⟩),(3,⟨[1],[],[],[(0,[(12,.sc (.k .b))])],[]⟩),(1,⟨[1],[],[],[(0,[(3,.sc (.k .b))])],[]⟩)] [] [] [] Try.func65 (by kernel_rfl) (bU (fun _=>by kernel_rfl))
noncomputable def vu (a:MV):Option MV:=
 gA a fun cs=>
 dv .i64 .i64 cs fun By View Value=>
 bd (
 aR (decide ((0:Int)≤By)) (
 aR (decide ((0:Int)≤View)) (
 aR (decide (View≤100000)) (
 some [.b (decide ((Value.length:Int)≤6000))]) (
 some [.b false])) (
 some [.b false])) (
 some [.b false])) fun vs=>
 gC vs fun m3 pU=>
 gB m3 fun x=>
 gN pU<|
 some (.b x)
noncomputable def JY:Nat→List MV→Option MV:=bS 85 (gd vu) jK
theorem Gk:aC Try.prog cx JY:=q9 mJ [] 22 [(1,⟨[1],[],[],[(0,[(2,.sc (.k .b))])],[]⟩)] [] [] Try.func85 (by kernel_rfl) (bU (fun _=>by kernel_rfl))
noncomputable def sn (t:MV):Option MV:=
 gA t fun cs=>
 gC cs fun m wD=>
 gL m fun L=>
 gN wD<|
 bd (Loop (fun wE=>
 gC wE fun m1 fO=>
 gI .i64 m1 fun i=>
 gN fO<|
 cI L fun len=>
 aR (decide (i<(len:Int))) (
 bd (
 idx L i fun y=>
 gA y fun iB=>
 dv .i64 .i64 iB fun By View Value=>
 bd (vu (.agg [.i .i64 By,.i .i64 View,.s Value])) fun rA=>
 gB rA fun x=>
 aR (!x) (
 some [.b true]) (
 aR (decide ((0:Int)<i)) (
 idx L (IntKind.wrap .i64 (i-1)) fun y1=>
 gA y1 fun lp=>
 dv .i64 .i64 lp fun z6 cV cj=>
 idx L i fun y2=>
 gA y2 fun kf=>
 dv .i64 .i64 kf fun Ii mG gp=>
 some [.b (decide (Ii≤z6))]) (
 some [.b false]))) fun vs=>
 gC vs fun Lk kV=>
 gB Lk fun x1=>
 gN kV<|
 aR x1 (
 some (.inr (1,[.b false]))) (
 some (.inl [.i .i64 (IntKind.wrap .i64 (i+1))]))) (
 some (.inr (2,[])))) [.i .i64 0]) fun p=>
 aR (Nat.beq p.1 2) (
 gN p.2<|
 some (.b true)) (
 cE (Nat.beq p.1 1)<|
 gC p.2 fun Ij mH=>
 gB Ij fun x2=>
 gN mH<|
 some (.b x2))
noncomputable def CU:Nat→List MV→Option MV:=bS 67 (gd sn) JY
theorem BD:aC Try.prog cx CU:=xZ Gk [] [] 38 [] [] [] [(4,[0,1,2,3,4,5,6,7,8,9,10,11,12,13,14,15,16,17,18,19,20,21,22,23,24,25,26])] [(4,⟨[1,3],[],[],[(0,[(37,.sc (.k .b))])],[]⟩)] [] [(2,⟨[1],[],[(3,.sc (.k (.i .i64)))],[(1,[(2,.sc (.k .b))]),(2,[])],[]⟩)] [] Try.func67 (by kernel_rfl) (bU (fun _=>by kernel_rfl))
noncomputable def sq (sA:MV):Option MV:=
 gA sA fun cs=>
 pe .i64 .i64 cs fun F T=>
 some (.i .i64 (IntKind.wrap .i64 ((IntKind.wrap .i64 ((IntKind.wrap .i64 (2 *F))+T))+1)))
noncomputable def CV:Nat→List MV→Option MV:=bS 89 (gd sq) CU
theorem BE:aC Try.prog cx CV:=q9 BD [] 10 [] [] [] Try.func89 (by kernel_rfl) (bU (fun _=>by kernel_rfl))
noncomputable def o4 (a a1:MV):Option MV:=
 gA a fun cs=>
 pe .i64 .i64 cs fun F T=>
 gL a1 fun gX=>
 bd (
 bd (kp (.agg [.i .i64 F,.i .i64 T])) fun rA=>
 gB rA fun x=>
 aR (!x) (
 some [.b true]) (
 cI gX fun len=>
 bd (sq (.agg [.i .i64 F,.i .i64 T])) fun bI=>
 gI .i64 bI fun x1=>
 some [.b (!decide ((len:Int)=x1))])) fun vs=>
 gC vs fun m2 fO=>
 gB m2 fun x2=>
 gN fO<|
 aR x2 (
 some (.b false)) (
 bd (Loop (fun pU=>
 gC pU fun m3 rb=>
 gI .i64 m3 fun x3=>
 gN rb<|
 cI gX fun dY=>
 aR (decide (x3<(dY:Int))) (
 idx gX x3 fun y=>
 gA y fun iB=>
 dv .i64 .i64 iB fun By View Value=>
 bd (
 bd (vu (.agg [.i .i64 By,.i .i64 View,.s Value])) fun cJ=>
 gB cJ fun x4=>
 aR (!x4) (
 some [.b true]) (
 bd (Ak (.agg [.i .i64 F,.i .i64 T])) fun dL=>
 gI .i64 dL fun x5=>
 aR (decide (x5≤By)) (
 some [.b true]) (
 idx gX 0 fun y1=>
 gA y1 fun lp=>
 dv .i64 .i64 lp fun z6 cV cj=>
 aR (!decide (View=cV)) (
 some [.b true]) (
 idx gX 0 fun y2=>
 gA y2 fun kf=>
 dv .i64 .i64 kf fun Ii mG gp=>
 aR (!decide (Value=gp)) (
 some [.b true]) (
 aR (decide ((0:Int)<x3)) (
 idx gX (IntKind.wrap .i64 (x3-1)) fun y3=>
 gA y3 fun O8=>
 dv .i64 .i64 O8 fun YH CO Ai=>
 some [.b (decide (By≤YH))]) (
 some [.b false])))))) fun iO=>
 gC iO fun O0 rf=>
 gB O0 fun x6=>
 gN rf<|
 aR x6 (
 some (.inr (1,[.b false]))) (
 some (.inl [.i .i64 (IntKind.wrap .i64 (x3+1))]))) (
 some (.inr (2,[])))) [.i .i64 0]) fun p=>
 aR (Nat.beq p.1 2) (
 gN p.2<|
 some (.b true)) (
 cE (Nat.beq p.1 1)<|
 gC p.2 fun Ll rh=>
 gB Ll fun x7=>
 gN rh<|
 some (.b x7)))
noncomputable def CW:Nat→List MV→Option MV:=bS 68 (nd o4) CV
theorem BF:aC Try.prog cx CW:=xZ BE [] [] 70 [] [] [] [(7,[0,1,2,3,4,5,6,7,8,9,10,11,12,13,14,15,16,17,18,19,20,21,22,23,24,25,26,27,28,29,30,31,32,33,34,35,36,37,38,39,40,41,42])] [(7,⟨[1,2,5,6],[],[],[(0,[(69,.sc (.k .b))])],[]⟩),(1,⟨[1,2],[],[],[(0,[(16,.sc (.k .b))])],[]⟩)] [] [(4,⟨[1,2],[],[(5,.sc (.k (.i .i64)))],[(1,[(4,.sc (.k .b))]),(2,[])],[]⟩)] [] Try.func68 (by kernel_rfl) (dq (fun _ _=>by kernel_rfl))
noncomputable def sr (a:MV):Option MV:=
 gA a fun cs=>
 bK .i64 .i64 .i64 .i64 .i64 cs fun SF ST Me View Has At Value Proof dw=>
 bd (yv (.agg [.i .i64 SF,.i .i64 ST]) (.i .i64 Me)) fun rA=>
 gT rA fun vs=>
 gC vs fun m9 mF=>
 gA m9 fun iB=>
 bK .i64 .i64 .i64 .i64 .i64 iB fun Yx Yy Yz cV wG YA cj lm vq=>
 gC mF fun UR rj=>
 gI .i64 UR fun x=>
 gN rj<|
 bd (
 aR (!decide (x=0)) (
 some [.b true]) (
 aR (decide (View<0)) (
 some [.b true]) (
 aR (decide ((100000:Int)<View)) (
 some [.b true]) (
 bd (sn (.agg [.list dw])) fun bI=>
 gB bI fun x1=>
 some [.b (!x1)])))) fun iO=>
 gC iO fun Yw Ag=>
 gB Yw fun x2=>
 gN Ag<|
 aR x2 (
 some (.b false)) (
 bd (
 aR Has (
 aR (decide (At<0)) (
 some [.b true]) (
 aR (decide (View<At)) (
 some [.b true]) (
 aR (decide ((6000:Int)<(Value.length:Int))) (
 some [.b true]) (
 aR (!Has) (
 aR (!decide (At=0)) (
 some [.b true]) (
 some [.b (!decide (Value=([]:List UInt8)))])) (
 some [.b false]))))) (
 aR (!Has) (
 aR (!decide (At=0)) (
 some [.b true]) (
 some [.b (!decide (Value=([]:List UInt8)))])) (
 some [.b false]))) fun pH=>
 gC pH fun UT vt=>
 gB UT fun x3=>
 gN vt<|
 aR x3 (
 some (.b false)) (
 bd (
 cI Proof fun len=>
 aR (decide ((0:Int)<(len:Int))) (
 bd (o4 (.agg [.i .i64 SF,.i .i64 ST]) (.list Proof)) fun cJ=>
 gB cJ fun x4=>
 aR (!x4) (
 some [.b true]) (
 idx Proof 0 fun y=>
 gA y fun lp=>
 dv .i64 .i64 lp fun By mG gp=>
 some [.b (decide (View<mG))])) (
 some [.b false])) fun OY=>
 gC OY fun US vp=>
 gB US fun x5=>
 gN vp<|
 aR x5 (
 some (.b false)) (
 bd (Loop (fun Ah=>
 gC Ah fun UO O5=>
 gI .i64 UO fun x6=>
 gN O5<|
 cI dw fun dY=>
 aR (decide (x6<(dY:Int))) (
 bd (
 idx dw x6 fun y1=>
 gA y1 fun kf=>
 dv .i64 .i64 kf fun z6 CO Ai=>
 bd (Ak (.agg [.i .i64 SF,.i .i64 ST])) fun dL=>
 gI .i64 dL fun x7=>
 aR (decide (x7≤z6)) (
 some [.b true]) (
 idx dw x6 fun y2=>
 gA y2 fun O8=>
 dv .i64 .i64 O8 fun Ii CP Ek=>
 some [.b (!decide (CP=View))])) fun UW=>
 gC UW fun m33 Pc=>
 gB m33 fun x8=>
 gN Pc<|
 aR x8 (
 some (.inr (1,[.b false]))) (
 some (.inl [.i .i64 (IntKind.wrap .i64 (x6+1))]))) (
 some (.inr (2,[])))) [.i .i64 0]) fun p=>
 aR (Nat.beq p.1 2) (
 gN p.2<|
 some (.b true)) (
 cE (Nat.beq p.1 1)<|
 gC p.2 fun m34 YI=>
 gB m34 fun x9=>
 gN YI<|
 some (.b x9)))))
noncomputable def CX:Nat→List MV→Option MV:=bS 20 (gd sr) CW
theorem BG:aC Try.prog cx CX:=xZ BF [] [] 120 [] [] [] [(6,[0,1,2,3,4,5,6,7,8,9,10,11,12,13,14,15,16,17,18,19,20,21]),(11,[0,1,2,3,4,5,6,7,8,9,10,11,12,13,14,15,16,17,18,19,20,21,22])] [(11,⟨[1,5],[],[],[(0,[(119,.sc (.k .b))])],[]⟩),(6,⟨[1],[],[],[(0,[(88,.sc (.k .b))])],[]⟩),(4,⟨[1],[],[],[(0,[(66,.sc (.k .b))])],[]⟩),(2,⟨[1,4],[],[],[(0,[(31,.sc (.k .b))])],[]⟩)] [] [(9,⟨[1],[],[(5,.sc (.k (.i .i64)))],[(1,[(2,.sc (.k .b))]),(2,[])],[]⟩)] [] Try.func20 (by kernel_rfl) (bU (fun _=>by kernel_rfl))
noncomputable def jL (x:MV):Option MV:=
 gI .i64 x fun x1=>
 some (.b (!decide (x1=x1)))
noncomputable def vv:Nat→List MV→Option MV:=bS 133 (gd jL) CX
theorem wM:aC Try.prog cx vv:=q9 BG [] 6 [] [] [] Try.func133 (by kernel_rfl) (bU (fun _=>by kernel_rfl))
noncomputable def jM (x y:MV):Option MV:=
 gI .i64 x fun x1=>
 gI .i64 y fun y1=>
 bd (jL (.i .i64 x1)) fun rA=>
 gB rA fun x2=>
 bd (jL (.i .i64 y1)) fun bI=>
 gB bI fun x3=>
 aR x2 (
 aR x3 (
 some (.i .i64 0)) (
 some (.i .i64 (-1)))) (
 aR x3 (
 some (.i .i64 1)) (
 aR (decide (x1<y1)) (
 some (.i .i64 (-1))) (
 aR (decide (y1<x1)) (
 some (.i .i64 1)) (
 some (.i .i64 0)))))
noncomputable def rm:Nat→List MV→Option MV:=bS 116 (nd jM) vv
theorem tZ:aC Try.prog cx rm:=q9 wM [] 20 [] [] [] Try.func116 (by kernel_rfl) (dq (fun _ _=>by kernel_rfl))
noncomputable def nL (x xX:MV):Option MV:=
 gA x fun cs=>
 dv .i64 .i64 cs fun By View Value=>
 gI .i64 xX fun acs=>
 bd (jM (.i .i64 By) (.i .i64 acs)) fun rA=>
 gI .i64 rA fun x1=>
 some (.i .i64 x1)
noncomputable def rn:Nat→List MV→Option MV:=bS 115 (nd nL) rm
theorem ye:aC Try.prog cx rn:=q9 tZ [] 9 [] [] [] Try.func115 (by kernel_rfl) (dq (fun _ _=>by kernel_rfl))
noncomputable def bQ:Nat→List MV→Option MV:=rn
theorem er (x0 x1:MV):bQ 115 [x0,x1]=nL x0 x1:=by kernel_rfl
noncomputable def b5 (x target cmp:MV):Option MV:=
 gL x fun x1=>
 gI .i64 target fun JZ=>
 gR cmp fun YJ=>
 cI x1 fun len=>
 bd (Loop (fun wD=>
 pe .i64 .i64 wD fun i j=>
 aR (decide (i<j)) (
 cE (decide ((0:Int)≤1))<|
 idx x1 (IntKind.wrap .i64 (Int.fdiv (IntKind.wrap .u64 (IntKind.wrap .i64 (i+j))) (2^min (Int.toNat 1) (IntKind.bits .u64)))) fun y=>
 gA y fun cs=>
 dv .i64 .i64 cs fun By View Value=>
 R3 YJ fun fn cap=>
 cE (!gv fn)<|
 bd (bQ fn ([.agg [.i .i64 By,.i .i64 View,.s Value],.i .i64 JZ]++cap)) fun rA=>
 gI .i64 rA fun x2=>
 bd (
 aR (decide (x2<0)) (
 some (0,[.i .i64 (IntKind.wrap .i64 ((IntKind.wrap .i64 (Int.fdiv (IntKind.wrap .u64 (IntKind.wrap .i64 (i+j))) (2^min (Int.toNat 1) (IntKind.bits .u64))))+1)),.i .i64 j])) (
 some (0,[.i .i64 i,.i .i64 (IntKind.wrap .i64 (Int.fdiv (IntKind.wrap .u64 (IntKind.wrap .i64 (i+j))) (2^min (Int.toNat 1) (IntKind.bits .u64))))]))) fun p1=>
 cE (Nat.beq p1.1 0)<|
 pe .i64 .i64 p1.2 fun i1 j1=>
 some (.inl [.i .i64 i1,.i .i64 j1])) (
 some (.inr (2,[.i .i64 i])))) [.i .i64 0,.i .i64 (len:Int)]) fun p=>
 cE (Nat.beq p.1 2)<|
 gC p.2 fun m7 z7=>
 gI .i64 m7 fun i2=>
 gN z7<|
 bd (
 aR (decide (i2<(len:Int))) (
 idx x1 i2 fun y1=>
 gA y1 fun iB=>
 dv .i64 .i64 iB fun z6 cV cj=>
 R3 YJ fun fn1 acu=>
 cE (!gv fn1)<|
 bd (bQ fn1 ([.agg [.i .i64 z6,.i .i64 cV,.s cj],.i .i64 JZ]++acu)) fun bI=>
 gI .i64 bI fun x3=>
 some [.i .i64 i2,.b (decide (x3=0))]) (
 some [.i .i64 i2,.b false])) fun vs=>
 gC vs fun Lk kV=>
 gI .i64 Lk fun x4=>
 gC kV fun Ij mH=>
 gB Ij fun x5=>
 gN mH<|
 some (.dy [.i .i64 x4,.b x5])
noncomputable def dH:Nat→List MV→Option MV:=bS 114 (Ee b5) rn
theorem fV:aC Try.prog cx dH:=q9 ye [] 49 [(8,⟨[0,1,2,8,9],[],[],[(0,[(6,.sc (.k (.i .i64))),(7,.sc (.k .b))])],[]⟩)] [(6,⟨[0,1,2,8,11],[],[],[(0,[(9,.sc (.k (.i .i64))),(10,.sc (.k (.i .i64)))])],[]⟩)] [(3,⟨[0,1,2,8],[],[(9,.sc (.k (.i .i64))),(10,.sc (.k (.i .i64)))],[(2,[(9,.sc (.k (.i .i64)))])],[]⟩)] Try.func114 (by kernel_rfl) (pP (fun _ _ _=>by kernel_rfl))
noncomputable def su (t a:MV):Option MV:=
 gA t fun cs=>
 gC cs fun m wD=>
 gL m fun L=>
 gN wD<|
 gA a fun iB=>
 dv .i64 .i64 iB fun By View Value=>
 bd (lX (.agg [.i .i64 By,.i .i64 View,.s Value])) fun rA=>
 gB rA fun x=>
 aR (!x) (
 some (.dy [.agg [.list L],.b false])) (
 bd (b5 (.list L) (.i .i64 By) (.func 115 [])) fun bI=>
 gT bI fun vs=>
 gC vs fun m4 rb=>
 gI .i64 m4 fun x1=>
 gC rb fun m5 zW=>
 gB m5 fun x2=>
 gN zW<|
 bd (
 aR x2 (
 idx L x1 fun y=>
 gA y fun lp=>
 dv .i64 .i64 lp fun z6 cV cj=>
 some [.b (decide (View≤cV))]) (
 some [.b false])) fun iO=>
 gC iO fun m9 mF=>
 gB m9 fun x3=>
 gN mF<|
 aR x3 (
 some (.dy [.agg [.list L],.b false])) (
 bd (tS 3 32 [.list L]) fun cJ=>
 gF cJ fun xs=>
 bd (
 aR x2 (
 idx xs x1 fun y1=>
 gA y1 fun kf=>
 dv .i64 .i64 kf fun Ii mG gp=>
 some (0,[.list (xs.set (Int.toNat x1) (.agg [.i .i64 By,.i .i64 View,.s Value]))])) (
 bd (pN 32 [.fresh xs,.i .i64 x1,.fresh ([.agg [.i .i64 By,.i .i64 View,.s Value]]:List MV)]) fun dL=>
 gF dL fun xs1=>
 some (0,[.list xs1]))) fun p=>
 cE (Nat.beq p.1 0)<|
 gC p.2 fun O2 mH=>
 gL O2 fun lA=>
 gN mH<|
 some (.dy [.agg [.list lA],.b true])))
noncomputable def CY:Nat→List MV→Option MV:=bS 94 (nd su) dH
theorem BH:aC Try.prog cx CY:=xZ fV [] [] 49 [] [] [] [(4,[0,1,2,3,4,5,6,7,8,9,10,11])] [(4,⟨[2,3,4,6,7],[],[],[(0,[(32,.sc (.k .b))])],[45,46]⟩)] [(8,⟨[3,4,6],[],[],[(0,[(8,.sc (.own 36 72 false))])],[45,46]⟩)] [] [] Try.func94 (by kernel_rfl) (dq (fun _ _=>by kernel_rfl))
noncomputable def pX (a a1:MV):Option MV:=
 gA a fun cs=>
 gC cs fun m wD=>
 gL m fun L=>
 gN wD<|
 gI .i64 a1 fun gX=>
 cI L fun len=>
 bd (Loop (fun wE=>
 vf .i64 wE fun es x=>
 aR (decide (x<(len:Int))) (
 idx L x fun y=>
 gA y fun iB=>
 dv .i64 .i64 iB fun By View Value=>
 cE (decide ((0:Int)≤(bE es ([.i .i64 View,.s Value]:List MV):Int)∧Int.toNat (bE es ([.i .i64 View,.s Value]:List MV):Int)<(gz es ([.i .i64 View,.s Value]:List MV) (.i .i64 0)).length))<|
 some (.inl [.list (lC (gz es ([.i .i64 View,.s Value]:List MV) (.i .i64 0)) (Int.toNat (bE es ([.i .i64 View,.s Value]:List MV):Int)) (.i .i64 (IntKind.wrap .i64 ((hU es ([.i .i64 View,.s Value]:List MV))+1)))),.i .i64 (IntKind.wrap .i64 (x+1))])) (
 some (.inr (2,[.list es])))) [.list ([]:List MV),.i .i64 0]) fun p=>
 cE (Nat.beq p.1 2)<|
 gC p.2 fun m6 OX=>
 gL m6 fun V1=>
 gN OX<|
 cI L fun dY=>
 bd (Loop (fun z7=>
 gC z7 fun m7 mF=>
 gI .i64 m7 fun x1=>
 gC mF fun m8 oW=>
 gS m8 fun x2=>
 gC oW fun m9 vm=>
 gB m9 fun x3=>
 gC vm fun RB kV=>
 gI .i64 RB fun x4=>
 gN kV<|
 aR (decide (x4<(dY:Int))) (
 idx L x4 fun y1=>
 gA y1 fun lp=>
 dv .i64 .i64 lp fun z6 cV cj=>
 bd (
 aR (decide ((1:Int)≤gX)) (
 aR (decide (gX≤(hU V1 ([.i .i64 cV,.s cj]:List MV)))) (
 some [.b (decide (x1<cV))]) (
 some [.b false])) (
 some [.b false])) fun vs=>
 gC vs fun Ik rc=>
 gB Ik fun x5=>
 gN rc<|
 bd (
 aR x5 (
 some (0,[.i .i64 cV,.s cj,.b true])) (
 some (0,[.i .i64 x1,.s x2,.b x3]))) fun p2=>
 cE (Nat.beq p2.1 0)<|
 Eh .i64 p2.2 fun x6 x7 x8=>
 some (.inl [.i .i64 x6,.s x7,.b x8,.i .i64 (IntKind.wrap .i64 (x4+1))])) (
 some (.inr (4,[.i .i64 x1,.s x2,.b x3])))) [.i .i64 (-1),.s ([]:List UInt8),.b false,.i .i64 0]) fun p1=>
 cE (Nat.beq p1.1 4)<|
 Eh .i64 p1.2 fun x9 EU Bd=>
 aR (!Bd) (
 some (.dy [.i .i64 0,.s ([]:List UInt8),.b false])) (
 some (.dy [.i .i64 x9,.s EU,.b true]))
noncomputable def Al:Nat→List MV→Option MV:=bS 108 (nd pX) CY
theorem Am:aC Try.prog cx Al:=xZ BH [] [] 71 [] [] [] [(5,[0,1,2,3,4,5,6,7,8,9,10]),(17,[0,1,2,3,4,5,6])] [(12,⟨[1,7,10,11,14,36,37,38],[],[],[(0,[(62,.sc (.k .b))])],[]⟩)] [(13,⟨[1,7,14,36,37,38],[],[],[(0,[(10,.box [.k (.i .i64),.k .s]),(11,.sc (.k .b))])],[]⟩)] [(9,⟨[1,7,36,37],[],[(10,.box [.k (.i .i64),.k .s]),(11,.sc (.k .b)),(38,.sc (.k (.i .i64)))],[(4,[(10,.box [.k (.i .i64),.k .s]),(11,.sc (.k .b))])],[]⟩),(3,⟨[1,2,17,18],[],[(7,.mp ⟨true,[.i .i64,.s],false⟩),(19,.sc (.k (.i .i64)))],[(2,[(7,.mp ⟨true,[.i .i64,.s],false⟩)])],[]⟩)] [] Try.func108 (by kernel_rfl) (dq (fun _ _=>by kernel_rfl))
noncomputable def mK (b:MV):Option MV:=
 gL b fun b1=>
 cI b1 fun len=>
 aR (decide ((len:Int)=0)) (
 some (.dy [.i .u64 0,.list ([]:List MV),.i .i64 2])) (
 idx b1 0 fun y=>
 gI .u8 y fun x=>
 cE (lc 1 b1)<|
 cI b1 fun dY=>
 cE (decide ((0:Int)≤1∧(1:Int)≤(dY:Int)∧(dY:Int)≤(dY:Int)))<|
 bd (
 aR (decide ((8:Int)<(IntKind.wrap .i64 x))) (
 some [.b true]) (
 aR (decide ((0:Int)<(IntKind.wrap .i64 x))) (
 cI (List.drop (Int.toNat 1) (List.take (Int.toNat (dY:Int)) b1)) fun sK=>
 aR (decide ((0:Int)<(sK:Int))) (
 idx (List.drop (Int.toNat 1) (List.take (Int.toNat (dY:Int)) b1)) 0 fun y1=>
 gI .u8 y1 fun x1=>
 some [.b (decide (x1=0))]) (
 some [.b false])) (
 some [.b false]))) fun vs=>
 gC vs fun m wD=>
 gB m fun x2=>
 gN wD<|
 aR x2 (
 some (.dy [.i .u64 0,.list ([]:List MV),.i .i64 3])) (
 cI (List.drop (Int.toNat 1) (List.take (Int.toNat (dY:Int)) b1)) fun Pd=>
 aR (decide ((Pd:Int)<(IntKind.wrap .i64 x))) (
 some (.dy [.i .u64 0,.list ([]:List MV),.i .i64 2])) (
 cI (List.drop (Int.toNat 1) (List.take (Int.toNat (dY:Int)) b1)) fun UX=>
 cE (decide ((0:Int)≤0∧(0:Int)≤(IntKind.wrap .i64 x)∧(IntKind.wrap .i64 x)≤(UX:Int)))<|
 cI (List.drop (Int.toNat 0) (List.take (Int.toNat (IntKind.wrap .i64 x)) (List.drop (Int.toNat 1) (List.take (Int.toNat (dY:Int)) b1)))) fun acw=>
 bd (Loop (fun wE=>
 pe .u64 .i64 wE fun n x3=>
 aR (decide (x3<(acw:Int))) (
 idx (List.drop (Int.toNat 0) (List.take (Int.toNat (IntKind.wrap .i64 x)) (List.drop (Int.toNat 1) (List.take (Int.toNat (dY:Int)) b1)))) x3 fun y2=>
 gI .u8 y2 fun x4=>
 cE (decide ((0:Int)≤8))<|
 some (.inl [.i .u64 (S5 .u64 (IntKind.wrap .u64 (n *2^min (Int.toNat 8) (IntKind.bits .u64))) (IntKind.wrap .u64 x4)),.i .i64 (IntKind.wrap .i64 (x3+1))])) (
 some (.inr (3,[.i .u64 n])))) [.i .u64 0,.i .i64 0]) fun p=>
 cE (Nat.beq p.1 3)<|
 gC p.2 fun m3 rb=>
 gI .u64 m3 fun n1=>
 gN rb<|
 cE (lc 1 (List.drop (Int.toNat 1) (List.take (Int.toNat (dY:Int)) b1)))<|
 cI (List.drop (Int.toNat 1) (List.take (Int.toNat (dY:Int)) b1)) fun RE=>
 cE (decide ((0:Int)≤(IntKind.wrap .i64 x)∧(IntKind.wrap .i64 x)≤(RE:Int)∧(RE:Int)≤(RE:Int)))<|
 some (.dy [.i .u64 n1,.list (List.drop (Int.toNat (IntKind.wrap .i64 x)) (List.take (Int.toNat (RE:Int)) (List.drop (Int.toNat 1) (List.take (Int.toNat (dY:Int)) b1)))),.i .i64 0]))))
noncomputable def An:Nat→List MV→Option MV:=bS 124 (gd mK) Al
theorem Ao:aC Try.prog cx An:=xZ Am [] [] 60 [] [] [] [(3,[0,1,2,3,4,5,6,7]),(14,[0,1,2,3,4,5,6])] [(4,⟨[5,6],[],[],[(0,[(19,.sc (.k .b))])],[]⟩)] [] [(10,⟨[5,6,44,45],[],[(7,.sc (.k (.i .u64))),(46,.sc (.k (.i .i64)))],[(3,[(7,.sc (.k (.i .u64)))])],[]⟩)] [] Try.func124 (by kernel_rfl) (bU (fun _=>by kernel_rfl))
noncomputable def kG (b:MV):Option MV:=
 gL b fun b1=>
 bd (mK (.list b1)) fun rA=>
 gT rA fun vs=>
 gC vs fun m wD=>
 gI .u64 m fun x=>
 vf .i64 wD fun x1 x2=>
 cE (decide ((0:Int)≤1))<|
 some (.dy [.i .i64 (vY .i64 (IntKind.wrap .i64 (Int.fdiv x (2^min (Int.toNat 1) (IntKind.bits .u64)))) (IntKind.wrap .i64 (0-(IntKind.wrap .i64 (G5 .u64 x 1))))),.list x1,.i .i64 x2])
noncomputable def tg:Nat→List MV→Option MV:=bS 102 (gd kG) An
theorem vw:aC Try.prog cx tg:=q9 Ao [] 24 [] [] [] Try.func102 (by kernel_rfl) (bU (fun _=>by kernel_rfl))
noncomputable def b7 (t:List MV):Option MV:=
 vf .i64 t fun b eA=>
 bd (
 aR (decide (eA=0)) (
 bd (kG (.list b)) fun rA=>
 gT rA fun vs=>
 gC vs fun m2 fO=>
 gI .i64 m2 fun x=>
 vf .i64 fO fun x1 x2=>
 some (0,[.i .i64 x,.list x1,.i .i64 x2])) (
 some (0,[.i .i64 0,.list b,.i .i64 eA]))) fun p=>
 cE (Nat.beq p.1 0)<|
 gC p.2 fun m5 zW=>
 gI .i64 m5 fun n=>
 vf .i64 zW fun x3 x4=>
 some (.mh (.i .i64 n) [.list x3,.i .i64 x4])
noncomputable def mL:Nat→List MV→Option MV:=bS 71 (Yt b7) tg
theorem pY:aC Try.prog cx mL:=X2 vw 0 CK [] [(0,1000000)] 24 [] [] [] [] [] [(2,⟨[0],[],[],[(0,[(2,.sc (.k (.i .i64))),(1000000,.box [.k .l,.k (.i .i64)])])],[]⟩)] [] [] Try.func71 (by kernel_rfl) (by kernel_rfl) (Ie fun _=>by kernel_rfl)
noncomputable def jN (b most:MV):Option MV:=
 gL b fun b1=>
 gI .i64 most fun YK=>
 bd (mK (.list b1)) fun rA=>
 gT rA fun vs=>
 gC vs fun m wD=>
 gI .u64 m fun x=>
 vf .i64 wD fun x1 x2=>
 aR (!decide (x2=0)) (
 some (.dy [.s ([]:List UInt8),.list ([]:List MV),.i .i64 x2])) (
 aR (decide ((IntKind.wrap .u64 (imax YK 0))<x)) (
 some (.dy [.s ([]:List UInt8),.list ([]:List MV),.i .i64 5])) (
 cI x1 fun len=>
 aR (decide ((IntKind.wrap .u64 (len:Int))<x)) (
 some (.dy [.s ([]:List UInt8),.list ([]:List MV),.i .i64 2])) (
 cI x1 fun dY=>
 cE (decide ((0:Int)≤0∧(0:Int)≤x∧x≤(dY:Int)))<|
 Dq (List.drop (Int.toNat 0) (List.take (Int.toNat x) x1)) fun bs=>
 cE (lc 1 x1)<|
 cI x1 fun sK=>
 cE (decide ((0:Int)≤x∧x≤(sK:Int)∧(sK:Int)≤(sK:Int)))<|
 some (.dy [.s bs,.list (List.drop (Int.toNat x) (List.take (Int.toNat (sK:Int)) x1)),.i .i64 0]))))
noncomputable def rq:Nat→List MV→Option MV:=bS 103 (nd jN) mL
theorem ua:aC Try.prog cx rq:=xZ pY [] [] 39 [] [] [] [(8,[0,1,2,3,4,5,6,7,8,9])] [] [] [] [] Try.func103 (by kernel_rfl) (dq (fun _ _=>by kernel_rfl))
noncomputable def dx (t:List MV):Option MV:=
 vf .i64 t fun b eA=>
 bd (
 aR (decide (eA=0)) (
 bd (jN (.list b) (.i .i64 6000)) fun rA=>
 gT rA fun vs=>
 gC vs fun m2 fO=>
 gS m2 fun x=>
 vf .i64 fO fun x1 x2=>
 some (0,[.s x,.list x1,.i .i64 x2])) (
 some (0,[.s ([]:List UInt8),.list b,.i .i64 eA]))) fun p=>
 cE (Nat.beq p.1 0)<|
 gC p.2 fun m5 zW=>
 gS m5 fun sA=>
 vf .i64 zW fun x3 x4=>
 some (.mh (.s sA) [.list x3,.i .i64 x4])
noncomputable def lv:Nat→List MV→Option MV:=bS 72 (Yt dx) rq
theorem o6:aC Try.prog cx lv:=X2 ua 0 CK [] [(0,1000000)] 24 [] [] [] [] [] [(2,⟨[0],[],[],[(0,[(2,.sc (.k .s)),(1000000,.box [.k .l,.k (.i .i64)])])],[]⟩)] [] [] Try.func72 (by kernel_rfl) (by kernel_rfl) (Ie fun _=>by kernel_rfl)
noncomputable def ef (t:List MV):Option MV:=
 vf .i64 t fun b eA=>
 bd (b7 [.list b,.i .i64 eA]) fun rA=>
 gW rA fun x ls=>
 vf .i64 ls fun b1 eA1=>
 gI .i64 x fun x1=>
 bd (
 aR (decide (x1<0)) (
 some [.b true]) (
 some [.b (decide ((100:Int)<x1))])) fun vs=>
 gC vs fun m4 rb=>
 gB m4 fun x2=>
 gN rb<|
 bd (
 aR x2 (
 some (0,[.list b1,.i .i64 3])) (
 some (0,[.list b1,.i .i64 eA1]))) fun p=>
 cE (Nat.beq p.1 0)<|
 vf .i64 p.2 fun x3 x4=>
 bd (
 aR (!decide (x4=0)) (
 some [.b true]) (
 some [.b (decide (x1=0))])) fun iO=>
 gC iO fun m7 OX=>
 gB m7 fun x5=>
 gN OX<|
 aR x5 (
 some (.mh (.list ([]:List MV)) [.list x3,.i .i64 x4])) (
 cE (decide ((0:Int)≤x1∧x1=x1∧x1 *32≤2^46))<|
 cI (List.replicate (Int.toNat x1) (.agg [.i .i64 0,.i .i64 0,.s ([]:List UInt8)])) fun len=>
 bd (Loop (fun z7=>
 gC z7 fun m8 mF=>
 gL m8 fun p2=>
 gC mF fun m9 oW=>
 gI .i64 m9 fun x6=>
 vf .i64 oW fun x7 x8=>
 aR (decide (x6<(len:Int))) (
 bd (b7 [.list x7,.i .i64 x8]) fun bI=>
 gW bI fun x9 ls1=>
 vf .i64 ls1 fun b2 eA2=>
 gI .i64 x9 fun EU=>
 idx p2 x6 fun y=>
 gA y fun cs=>
 dv .i64 .i64 cs fun By View Value=>
 some (.inl [.list (p2.set (Int.toNat x6) (.agg [.i .i64 EU,.i .i64 View,.s Value])),.i .i64 (IntKind.wrap .i64 (x6+1)),.list b2,.i .i64 eA2])) (
 some (.inr (2,[.list p2,.list x7,.i .i64 x8])))) [.list (List.replicate (Int.toNat x1) (.agg [.i .i64 0,.i .i64 0,.s ([]:List UInt8)])),.i .i64 0,.list x3,.i .i64 x4]) fun p1=>
 cE (Nat.beq p1.1 2)<|
 gC p1.2 fun Ll rh=>
 gL Ll fun p3=>
 vf .i64 rh fun Bd Il=>
 bd (b7 [.list Bd,.i .i64 Il]) fun cJ=>
 gW cJ fun EV ls2=>
 vf .i64 ls2 fun b3 eA3=>
 gI .i64 EV fun O3=>
 bd (dx [.list b3,.i .i64 eA3]) fun dL=>
 gW dL fun Lm ls3=>
 vf .i64 ls3 fun b4 eA4=>
 gS Lm fun RD=>
 cI p3 fun dY=>
 bd (Loop (fun vp=>
 vf .i64 vp fun p5 Mj=>
 aR (decide (Mj<(dY:Int))) (
 idx p5 Mj fun y1=>
 gA y1 fun iB=>
 dv .i64 .i64 iB fun z6 cV cj=>
 idx (p5.set (Int.toNat Mj) (.agg [.i .i64 z6,.i .i64 O3,.s cj])) Mj fun y2=>
 gA y2 fun lp=>
 dv .i64 .i64 lp fun Ii mG gp=>
 some (.inl [.list ((p5.set (Int.toNat Mj) (.agg [.i .i64 z6,.i .i64 O3,.s cj])).set (Int.toNat Mj) (.agg [.i .i64 Ii,.i .i64 mG,.s RD])),.i .i64 (IntKind.wrap .i64 (Mj+1))])) (
 some (.inr (4,[.list p5])))) [.list p3,.i .i64 0]) fun p4=>
 cE (Nat.beq p4.1 4)<|
 gC p4.2 fun m32 Pc=>
 gL m32 fun p6=>
 gN Pc<|
 some (.mh (.list p6) [.list b4,.i .i64 eA4]))
noncomputable def kW:Nat→List MV→Option MV:=bS 73 (Yt ef) lv
theorem n6:aC Try.prog cx kW:=X2 o6 0 CK [] [(0,1000000)] 64 [] [] [] [] [(4,⟨[0,3,1000000],[],[],[(0,[(28,.sc (.k .b))])],[]⟩),(2,⟨[0,3,1000000],[],[],[(0,[(16,.sc (.k .b))])],[]⟩)] [(3,⟨[0,3],[],[],[(0,[(1000000,.box [.k .l,.k (.i .i64)])])],[]⟩)] [(14,⟨[6,7,48,1000000],[],[(4,.sc (.own 30 72 false)),(49,.sc (.k (.i .i64)))],[(4,[(4,.sc (.own 30 72 false))])],[]⟩),(8,⟨[0,32],[],[(4,.sc (.own 30 72 false)),(33,.sc (.k (.i .i64))),(1000000,.box [.k .l,.k (.i .i64)])],[(2,[(4,.sc (.own 30 72 false)),(1000000,.box [.k .l,.k (.i .i64)])])],[]⟩)] [] Try.func73 (by kernel_rfl) (by kernel_rfl) (Ie fun _=>by kernel_rfl)
noncomputable def iL (Wl:MV):Option MV:=
 gB Wl fun acE=>
 aR acE (
 some (.i .i64 1)) (
 some (.i .i64 0))
noncomputable def th:Nat→List MV→Option MV:=bS 74 (gd iL) kW
theorem vz:aC Try.prog cx th:=q9 n6 [] 4 [] [] [] Try.func74 (by kernel_rfl) (bU (fun _=>by kernel_rfl))
noncomputable def kH (a a1 a2:MV):Option MV:=
 gA a fun cs=>
 pe .i64 .i64 cs fun F T=>
 gI .i64 a1 fun gX=>
 gL a2 fun Lo=>
 bd (gV (.agg [.i .i64 F,.i .i64 T]) (.i .i64 gX)) fun rA=>
 gT rA fun vs=>
 gC vs fun m2 fO=>
 gA m2 fun iB=>
 bK .i64 .i64 .i64 .i64 .i64 iB fun SF ST Me View Has At Value Proof dw=>
 gC fO fun Ij kV=>
 gI .i64 Ij fun x=>
 gN kV<|
 aR (!decide (x=0)) (
 some (.dy [.agg (bh 0 0 0 0 false 0 ([]:List UInt8) ([]:List MV) ([]:List MV)),.i .i64 x])) (
 bd (b7 [.list Lo,.i .i64 0]) fun bI=>
 gW bI fun x1 ls=>
 vf .i64 ls fun b eA=>
 gI .i64 x1 fun x2=>
 bd (b7 [.list b,.i .i64 eA]) fun cJ=>
 gW cJ fun x3 ls1=>
 vf .i64 ls1 fun b1 eA1=>
 gI .i64 x3 fun x4=>
 bd (b7 [.list b1,.i .i64 eA1]) fun dL=>
 gW dL fun x5 ls2=>
 vf .i64 ls2 fun b2 eA2=>
 gI .i64 x5 fun x6=>
 bd (dx [.list b2,.i .i64 eA2]) fun jX=>
 gW jX fun x7 ls3=>
 vf .i64 ls3 fun b3 eA3=>
 gS x7 fun x8=>
 bd (ef [.list b3,.i .i64 eA3]) fun ng=>
 gW ng fun x9 ls4=>
 vf .i64 ls4 fun b4 eA4=>
 gL x9 fun EU=>
 bd (
 aR (!decide (eA4=0)) (
 some [.b true]) (
 bd (iL (.b (decide (x4=1)))) fun Ib=>
 gI .i64 Ib fun Bd=>
 aR (!decide (x4=Bd)) (
 some [.b true]) (
 cI b4 fun len=>
 aR (decide ((0:Int)<(len:Int))) (
 some [.b true]) (
 bd (dB (.agg (bh SF ST Me x2 (decide (x4=1)) x6 x8 EU dw))) fun CJ=>
 gB CJ fun Il=>
 some [.b (!Il)])))) fun iO=>
 gC iO fun m23 Pe=>
 gB m23 fun EV=>
 gN Pe<|
 aR EV (
 some (.dy [.agg (bh 0 0 0 0 false 0 ([]:List UInt8) ([]:List MV) ([]:List MV)),.i .i64 3])) (
 some (.dy [.agg (bh SF ST Me x2 (decide (x4=1)) x6 x8 EU dw),.i .i64 0])))
noncomputable def tj:Nat→List MV→Option MV:=bS 34 (Ee kH) th
theorem vA:aC Try.prog cx tj:=ZW vz [] [] 68 [] [] [] [] [(8,⟨[6,8,9,10,11,14],[],[],[(0,[(64,.sc (.k .b))])],[]⟩)] [] [] [] Try.func34 (by kernel_rfl) (pP (fun _ _ _=>by kernel_rfl))
noncomputable def pZ (x:MV):Option MV:=
 gI .u64 x fun x1=>
 bd (
 aR (decide ((4294967296:Int)≤x1)) (
 cE (decide ((0:Int)≤32))<|
 some (0,[.i .u64 (Int.fdiv x1 (2^min (Int.toNat 32) (IntKind.bits .u64))),.i .i64 32])) (
 some (0,[.i .u64 x1,.i .i64 0]))) fun p=>
 cE (Nat.beq p.1 0)<|
 pe .u64 .i64 p.2 fun x2 n=>
 bd (
 aR (decide ((65536:Int)≤x2)) (
 cE (decide ((0:Int)≤16))<|
 some (0,[.i .u64 (Int.fdiv x2 (2^min (Int.toNat 16) (IntKind.bits .u64))),.i .i64 (IntKind.wrap .i64 (n+16))])) (
 some (0,[.i .u64 x2,.i .i64 n]))) fun p1=>
 cE (Nat.beq p1.1 0)<|
 pe .u64 .i64 p1.2 fun x3 n1=>
 bd (
 aR (decide ((256:Int)≤x3)) (
 cE (decide ((0:Int)≤8))<|
 some (0,[.i .u64 (Int.fdiv x3 (2^min (Int.toNat 8) (IntKind.bits .u64))),.i .i64 (IntKind.wrap .i64 (n1+8))])) (
 some (0,[.i .u64 x3,.i .i64 n1]))) fun p2=>
 cE (Nat.beq p2.1 0)<|
 pe .u64 .i64 p2.2 fun x4 n2=>
 cE (decide ((0:Int)≤(IntKind.wrap .u8 x4)∧(IntKind.wrap .u8 x4)<(((([0,1,2,2,3,3,3,3,4,4,4,4,4,4,4,4,5,5,5,5,5,5,5,5,5,5,5,5,5,5,5,5,6,6,6,6,6,6,6,6,6,6,6,6,6,6,6,6,6,6,6,6,6,6,6,6,6,6,6,6,6,6,6,6]:List UInt8)++([7,7,7,7,7,7,7,7,7,7,7,7,7,7,7,7,7,7,7,7,7,7,7,7,7,7,7,7,7,7,7,7,7,7,7,7,7,7,7,7,7,7,7,7,7,7,7,7,7,7,7,7,7,7,7,7,7,7,7,7,7,7,7,7]:List UInt8))++(([8,8,8,8,8,8,8,8,8,8,8,8,8,8,8,8,8,8,8,8,8,8,8,8,8,8,8,8,8,8,8,8,8,8,8,8,8,8,8,8,8,8,8,8,8,8,8,8,8,8,8,8,8,8,8,8,8,8,8,8,8,8,8,8]:List UInt8)++([8,8,8,8,8,8,8,8,8,8,8,8,8,8,8,8,8,8,8,8,8,8,8,8,8,8,8,8,8,8,8,8,8,8,8,8,8,8,8,8,8,8,8,8,8,8,8,8,8,8,8,8,8,8,8,8,8,8,8,8,8,8,8,8]:List UInt8))).length:Int)))<|
 some (.i .i64 (IntKind.wrap .i64 (n2+(IntKind.wrap .i64 ((((([0,1,2,2,3,3,3,3,4,4,4,4,4,4,4,4,5,5,5,5,5,5,5,5,5,5,5,5,5,5,5,5,6,6,6,6,6,6,6,6,6,6,6,6,6,6,6,6,6,6,6,6,6,6,6,6,6,6,6,6,6,6,6,6]:List UInt8)++([7,7,7,7,7,7,7,7,7,7,7,7,7,7,7,7,7,7,7,7,7,7,7,7,7,7,7,7,7,7,7,7,7,7,7,7,7,7,7,7,7,7,7,7,7,7,7,7,7,7,7,7,7,7,7,7,7,7,7,7,7,7,7,7]:List UInt8))++(([8,8,8,8,8,8,8,8,8,8,8,8,8,8,8,8,8,8,8,8,8,8,8,8,8,8,8,8,8,8,8,8,8,8,8,8,8,8,8,8,8,8,8,8,8,8,8,8,8,8,8,8,8,8,8,8,8,8,8,8,8,8,8,8]:List UInt8)++([8,8,8,8,8,8,8,8,8,8,8,8,8,8,8,8,8,8,8,8,8,8,8,8,8,8,8,8,8,8,8,8,8,8,8,8,8,8,8,8,8,8,8,8,8,8,8,8,8,8,8,8,8,8,8,8,8,8,8,8,8,8,8,8]:List UInt8))).getD (Int.toNat (IntKind.wrap .u8 x4)) 0).toNat:Int)))))
noncomputable def Ap:Nat→List MV→Option MV:=bS 136 (gd pZ) tj
theorem Aq:aC Try.prog cx Ap:=q9 vA [] 25 [] [(8,⟨[],[],[],[(0,[(0,.sc (.k (.i .u64))),(2,.sc (.k (.i .i64)))])],[]⟩),(5,⟨[],[],[],[(0,[(0,.sc (.k (.i .u64))),(2,.sc (.k (.i .i64)))])],[]⟩),(2,⟨[],[],[],[(0,[(0,.sc (.k (.i .u64))),(2,.sc (.k (.i .i64)))])],[]⟩)] [] Try.func136 (by kernel_rfl) (bU (fun _=>by kernel_rfl))
noncomputable def p0 (n:MV):Option MV:=
 gI .u64 n fun n1=>
 bd (pZ (.i .u64 n1)) fun rA=>
 gI .i64 rA fun x=>
 cE (!decide ((8:Int)=0))<|
 some (.i .i64 (IntKind.wrap .i64 (1+(IntKind.wrap .i64 (Int.tdiv (IntKind.wrap .i64 (x+7)) 8)))))
noncomputable def Ar:Nat→List MV→Option MV:=bS 125 (gd p0) Ap
theorem As:aC Try.prog cx Ar:=q9 Aq [] 8 [] [] [] Try.func125 (by kernel_rfl) (bU (fun _=>by kernel_rfl))
noncomputable def iS (sA:MV):Option MV:=
 gL sA fun RF=>
 cI RF fun len=>
 cI RF fun dY=>
 cE (decide ((len:Int)=(RF.length:Int)∧(dY:Int)=(RF.length:Int)))<|
 some (.clip RF)
noncomputable def qx:Nat→List MV→Option MV:=bS 126 (gd iS) Ar
theorem sL:aC Try.prog cx qx:=q9 As [] 9 [] [] [] Try.func126 (by kernel_rfl) (bU (fun _=>by kernel_rfl))
noncomputable def o7 (b n:MV):Option MV:=
 gL b fun b1=>
 gI .u64 n fun n1=>
 bd (p0 (.i .u64 n1)) fun rA=>
 gI .i64 rA fun x=>
 bd (iS (.list b1)) fun bI=>
 VU bI fun xs=>
 cE (lc 1 xs)<|
 cI xs fun len=>
 cI ([.i .u8 (IntKind.wrap .u8 (IntKind.wrap .i64 (x-1)))]:List MV) fun dY=>
 cE (decide (0<dY∧(len+dY) *1≤2^46))<|
 bd (Loop (fun wD=>
 vf .i64 wD fun out i=>
 aR (decide ((0:Int)≤i)) (
 cE (decide ((0:Int)≤(IntKind.wrap .i64 (8 *i))))<|
 cI out fun sK=>
 cI ([.i .u8 (IntKind.wrap .u8 (Int.fdiv n1 (2^min (Int.toNat (IntKind.wrap .i64 (8 *i))) (IntKind.bits .u64))))]:List MV) fun Pd=>
 cE (decide ((sK+Pd) *1≤2^46))<|
 some (.inl [.list (out++([.i .u8 (IntKind.wrap .u8 (Int.fdiv n1 (2^min (Int.toNat (IntKind.wrap .i64 (8 *i))) (IntKind.bits .u64))))]:List MV)),.i .i64 (IntKind.wrap .i64 (i-1))])) (
 some (.inr (2,[.list out])))) [.list (xs++([.i .u8 (IntKind.wrap .u8 (IntKind.wrap .i64 (x-1)))]:List MV)),.i .i64 (IntKind.wrap .i64 ((IntKind.wrap .i64 (x-1))-1))]) fun p=>
 cE (Nat.beq p.1 2)<|
 gC p.2 fun m2 pU=>
 gL m2 fun UN=>
 gN pU<|
 some (.fresh UN)
noncomputable def CZ:Nat→List MV→Option MV:=bS 106 (nd o7) qx
theorem BI:aC Try.prog cx CZ:=fnF sL 5 [] [] 32 [15,29] [] [] [] [] [] [(4,⟨[1],[],[(6,.sc (.own 16 5 false)),(7,.sc (.k (.i .i64)))],[(2,[(6,.sc (.own 16 5 false))])],[]⟩)] [] Try.func106 (by kernel_rfl) (by kernel_rfl) (dq (fun _ _=>by kernel_rfl))
noncomputable def gY (b n:MV):Option MV:=
 gL b fun b1=>
 gI .i64 n fun n1=>
 cE (decide ((0:Int)≤1))<|
 cE (decide ((0:Int)≤63))<|
 bd (o7 (.list b1) (.i .u64 (vY .u64 (IntKind.wrap .u64 ((IntKind.wrap .u64 n1) *2^min (Int.toNat 1) (IntKind.bits .u64))) (IntKind.wrap .u64 (Int.fdiv n1 (2^min (Int.toNat 63) (IntKind.bits .i64))))))) fun rA=>
 gF rA fun xs=>
 some (.fresh xs)
noncomputable def C0:Nat→List MV→Option MV:=bS 78 (nd gY) CZ
theorem BJ:aC Try.prog cx C0:=fnF BI 5 [] [] 14 [] [] [] [] [] [] [] [] Try.func78 (by kernel_rfl) (by kernel_rfl) (dq (fun _ _=>by kernel_rfl))
noncomputable def mM (b sA:MV):Option MV:=
 gL b fun b1=>
 gS sA fun RF=>
 bd (o7 (.list b1) (.i .u64 (IntKind.wrap .u64 (RF.length:Int)))) fun rA=>
 gF rA fun xs=>
 cI xs fun len=>
 cI (E0 RF) fun dY=>
 cE (decide ((len+dY) *1≤2^46))<|
 some (.fresh (xs++(E0 RF)))
noncomputable def Au:Nat→List MV→Option MV:=bS 79 (nd mM) C0
theorem Av:aC Try.prog cx Au:=fnF BJ 5 [] [] 12 [] [] [] [] [] [] [] [] Try.func79 (by kernel_rfl) (by kernel_rfl) (dq (fun _ _=>by kernel_rfl))
noncomputable def kI (a:MV):Option MV:=
 gA a fun cs=>
 bK .i64 .i64 .i64 .i64 .i64 cs fun SF ST Me View Has At Value Proof dw=>
 bd (gY (.list ([]:List MV)) (.i .i64 View)) fun rA=>
 gF rA fun xs=>
 bd (iL (.b Has)) fun bI=>
 gI .i64 bI fun x=>
 bd (gY (.list xs) (.i .i64 x)) fun cJ=>
 gF cJ fun xs1=>
 bd (gY (.list xs1) (.i .i64 At)) fun dL=>
 gF dL fun xs2=>
 cI Proof fun len=>
 bd (mM (.list xs2) (.s Value)) fun jX=>
 gF jX fun xs3=>
 bd (gY (.list xs3) (.i .i64 (len:Int))) fun ng=>
 gF ng fun xs4=>
 cI Proof fun dY=>
 bd (Loop (fun mF=>
 vf .i64 mF fun b x1=>
 aR (decide (x1<(dY:Int))) (
 idx Proof x1 fun y=>
 gA y fun iB=>
 dv .i64 .i64 iB fun By cV cj=>
 bd (gY (.list b) (.i .i64 By)) fun Ib=>
 gF Ib fun xs5=>
 some (.inl [.list xs5,.i .i64 (IntKind.wrap .i64 (x1+1))])) (
 some (.inr (2,[.list b])))) [.list xs4,.i .i64 0]) fun p=>
 cE (Nat.beq p.1 2)<|
 gC p.2 fun Ik mI=>
 gL Ik fun b1=>
 gN mI<|
 bd (oX (.list Proof)) fun CJ=>
 gT CJ fun vs=>
 Eh .i64 vs fun x2 x3 x4=>
 bd (
 aR x4 (
 bd (gY (.list b1) (.i .i64 x2)) fun xY=>
 gF xY fun xs6=>
 bd (mM (.list xs6) (.s x3)) fun P5=>
 gF P5 fun xs7=>
 some (0,[.list xs7])) (
 some (0,[.list b1]))) fun p1=>
 cE (Nat.beq p1.1 0)<|
 gC p1.2 fun UQ rj=>
 gL UQ fun b2=>
 gN rj<|
 some (.list b2)
noncomputable def tk:Nat→List MV→Option MV:=bS 36 (gd kI) Au
theorem vB:aC Try.prog cx tk:=xZ Av [] [] 53 [] [] [] [(1,[0,1,3,4,7,8,2,5,6,9,10]),(2,[0,1,2,4,5,6,3,7,8])] [] [(10,⟨[6,7],[],[],[(0,[(3,.sc (.own 26 5 true))])],[11,15,18,22,26,37,49,51]⟩)] [(4,⟨[1,28,29],[],[(3,.sc (.own 26 5 true)),(30,.sc (.k (.i .i64)))],[(2,[(3,.sc (.own 26 5 true))])],[11,15,18,22,26,37,49,51]⟩)] [] Try.func36 (by kernel_rfl) (bU (fun _=>by kernel_rfl))
noncomputable def sv (lA:MV):Option MV:=
 gL lA fun zV=>
 bd (Loop (fun wD=>
 gC wD fun m wE=>
 gI .i64 m fun i=>
 gN wE<|
 cI zV fun len=>
 aR (decide (i<(len:Int))) (
 bd (
 aR (decide (i=30)) (
 some [.b true]) (
 idx zV i fun y=>
 gA y fun cs=>
 cP .i64 .i64 .i64 cs fun By jW Has View Value Proof=>
 aR (decide ((6100:Int)<(Value.length:Int))) (
 some [.b true]) (
 idx zV i fun y1=>
 gA y1 fun iB=>
 cP .i64 .i64 .i64 iB fun z6 RC wG cV cj lm=>
 bd (sj (.list lm)) fun rA=>
 gB rA fun x=>
 some [.b (!x)]))) fun vs=>
 gC vs fun O2 Af=>
 gB O2 fun x1=>
 gN Af<|
 aR x1 (
 some (.inr (1,[.b false]))) (
 some (.inl [.i .i64 (IntKind.wrap .i64 (i+1))]))) (
 some (.inr (2,[])))) [.i .i64 0]) fun p=>
 aR (Nat.beq p.1 2) (
 gN p.2<|
 some (.b true)) (
 cE (Nat.beq p.1 1)<|
 gC p.2 fun Ik mI=>
 gB Ik fun x2=>
 gN mI<|
 some (.b x2))
noncomputable def C1:Nat→List MV→Option MV:=bS 51 (gd sv) tk
theorem BK:aC Try.prog cx C1:=q9 vB [] 30 [(4,⟨[0,3],[],[],[(0,[(29,.sc (.k .b))])],[]⟩)] [] [(2,⟨[0],[],[(3,.sc (.k (.i .i64)))],[(1,[(2,.sc (.k .b))]),(2,[])],[]⟩)] Try.func51 (by kernel_rfl) (bU (fun _=>by kernel_rfl))
noncomputable def vC (sA:MV):Option MV:=
 gA sA fun cs=>
 pe .i64 .i64 cs fun F T=>
 some (.i .i64 (IntKind.wrap .i64 ((IntKind.wrap .i64 ((IntKind.wrap .i64 (2 *F))+(IntKind.wrap .i64 (2 *T))))+1)))
noncomputable def Gl:Nat→List MV→Option MV:=bS 121 (gd vC) C1
theorem Em:aC Try.prog cx Gl:=q9 BK [] 11 [] [] [] Try.func121 (by kernel_rfl) (bU (fun _=>by kernel_rfl))
noncomputable def yw (a a1:MV):Option MV:=
 gA a fun cs=>
 pe .i64 .i64 cs fun F T=>
 gA a1 fun iB=>
 cP .i64 .i64 .i64 iB fun By jW Has View Value Proof=>
 bd (
 bd (kp (.agg [.i .i64 F,.i .i64 T])) fun rA=>
 gB rA fun x=>
 aR (!x) (
 some [.b true]) (
 aR (decide (By<0)) (
 some [.b true]) (
 bd (Ak (.agg [.i .i64 F,.i .i64 T])) fun bI=>
 gI .i64 bI fun x1=>
 aR (decide (x1≤By)) (
 some [.b true]) (
 aR (decide (jW<1)) (
 some [.b true]) (
 some [.b (decide ((100000:Int)<jW))]))))) fun vs=>
 gC vs fun m8 z7=>
 gB m8 fun x2=>
 gN z7<|
 aR x2 (
 some (.b false)) (
 bd (
 aR Has (
 aR (decide (View<0)) (
 some [.b true]) (
 aR (decide (jW≤View)) (
 some [.b true]) (
 aR (decide ((6000:Int)<(Value.length:Int))) (
 some [.b true]) (
 aR (!Has) (
 aR (!decide (View=0)) (
 some [.b true]) (
 some [.b (!decide (Value=([]:List UInt8)))])) (
 some [.b false]))))) (
 aR (!Has) (
 aR (!decide (View=0)) (
 some [.b true]) (
 some [.b (!decide (Value=([]:List UInt8)))])) (
 some [.b false]))) fun iO=>
 gC iO fun m9 mF=>
 gB m9 fun x3=>
 gN mF<|
 aR x3 (
 some (.b false)) (
 bd (
 cI Proof fun len=>
 aR (decide ((len:Int)=0)) (
 some [.b true]) (
 bd (o4 (.agg [.i .i64 F,.i .i64 T]) (.list Proof)) fun cJ=>
 gB cJ fun x4=>
 aR x4 (
 idx Proof 0 fun y=>
 gA y fun lp=>
 dv .i64 .i64 lp fun z6 cV cj=>
 some [.b (decide (cV<jW))]) (
 some [.b false]))) fun pH=>
 gC pH fun O2 mH=>
 gB O2 fun x5=>
 gN mH<|
 some (.b x5)))
noncomputable def J0:Nat→List MV→Option MV:=bS 122 (nd yw) Gl
theorem Gm:aC Try.prog cx J0:=xZ Em [] [] 85 [] [] [] [(1,[0,1,2,3,4,5,6,7,8,9,10,11,12,13,14,15,16,17,18,19,20,21,22,23,24]),(5,[0,1,2,3,4,5,6,7,8,9,10,11,12,13,14,15,16,17,18,19,20])] [(5,⟨[2,3],[],[],[(0,[(4,.sc (.k .b))])],[]⟩),(3,⟨[2,3],[],[],[(0,[(64,.sc (.k .b))])],[]⟩),(1,⟨[2,3],[],[],[(0,[(29,.sc (.k .b))])],[]⟩)] [] [] [] Try.func122 (by kernel_rfl) (dq (fun _ _=>by kernel_rfl))
noncomputable def sw (sA view lA:MV):Option MV:=
 gA sA fun cs=>
 pe .i64 .i64 cs fun F T=>
 gI .i64 view fun gn=>
 gL lA fun zV=>
 bd (
 bd (kp (.agg [.i .i64 F,.i .i64 T])) fun rA=>
 gB rA fun x=>
 aR (!x) (
 some [.b true]) (
 cI zV fun len=>
 bd (vC (.agg [.i .i64 F,.i .i64 T])) fun bI=>
 gI .i64 bI fun x1=>
 some [.b (!decide ((len:Int)=x1))])) fun vs=>
 gC vs fun m2 fO=>
 gB m2 fun x2=>
 gN fO<|
 aR x2 (
 some (.b false)) (
 bd (Loop (fun pU=>
 gC pU fun m3 rb=>
 gI .i64 m3 fun i=>
 gN rb<|
 cI zV fun dY=>
 aR (decide (i<(dY:Int))) (
 bd (
 idx zV i fun y=>
 gA y fun iB=>
 cP .i64 .i64 .i64 iB fun By jW Has View Value Proof=>
 bd (yw (.agg [.i .i64 F,.i .i64 T]) (.agg (pT By jW Has View Value Proof))) fun cJ=>
 gB cJ fun x3=>
 aR (!x3) (
 some [.b true]) (
 idx zV i fun y1=>
 gA y1 fun lp=>
 cP .i64 .i64 .i64 lp fun z6 RC wG cV cj lm=>
 aR (!decide (RC=gn)) (
 some [.b true]) (
 aR (decide ((0:Int)<i)) (
 idx zV (IntKind.wrap .i64 (i-1)) fun y2=>
 gA y2 fun kf=>
 cP .i64 .i64 .i64 kf fun Ii acG O6 mG gp wK=>
 idx zV i fun y3=>
 gA y3 fun O8=>
 cP .i64 .i64 .i64 O8 fun YH acH Pa CO Ai El=>
 some [.b (decide (YH≤Ii))]) (
 some [.b false])))) fun iO=>
 gC iO fun UP Ad=>
 gB UP fun x4=>
 gN Ad<|
 aR x4 (
 some (.inr (1,[.b false]))) (
 some (.inl [.i .i64 (IntKind.wrap .i64 (i+1))]))) (
 some (.inr (2,[])))) [.i .i64 0]) fun p=>
 aR (Nat.beq p.1 2) (
 gN p.2<|
 some (.b true)) (
 cE (Nat.beq p.1 1)<|
 gC p.2 fun Ia Ae=>
 gB Ia fun x5=>
 gN Ae<|
 some (.b x5)))
noncomputable def C2:Nat→List MV→Option MV:=bS 99 (Ee sw) J0
theorem BL:aC Try.prog cx C2:=xZ Gm [] [] 58 [] [] [] [(6,[0,1,2,3,4,5,6,7,8,9,10,11,12,13,14,15,16,17,18,19,20,21,22,23,24,25,26,27,28,29,30,31,32,33])] [(6,⟨[1,2,3,7],[],[],[(0,[(57,.sc (.k .b))])],[]⟩),(1,⟨[1,2,3],[],[],[(0,[(17,.sc (.k .b))])],[]⟩)] [] [(4,⟨[1,2,3],[],[(7,.sc (.k (.i .i64)))],[(1,[(6,.sc (.k .b))]),(2,[])],[]⟩)] [] Try.func99 (by kernel_rfl) (pP (fun _ _ _=>by kernel_rfl))
noncomputable def En (p:MV):Option MV:=
 gL p fun p1=>
 cI p1 fun len=>
 aR (decide ((len:Int)=0)) (
 some (.dy [.i .i64 (-1),.s ([]:List UInt8),.b false])) (
 idx p1 0 fun y=>
 gA y fun cs=>
 dv .i64 .i64 cs fun By View Value=>
 idx p1 0 fun y1=>
 gA y1 fun iB=>
 dv .i64 .i64 iB fun z6 cV cj=>
 some (.dy [.i .i64 View,.s cj,.b true]))
noncomputable def Pf:Nat→List MV→Option MV:=bS 98 (gd En) C2
theorem Io:aC Try.prog cx Pf:=xZ BL [] [] 16 [] [] [] [(3,[0,1,2,3,4,5,6,7,8,9,10])] [] [] [] [] Try.func98 (by kernel_rfl) (bU (fun _=>by kernel_rfl))
noncomputable def sB (sA:MV):Option MV:=
 gA sA fun cs=>
 pe .i64 .i64 cs fun F T=>
 some (.i .i64 (IntKind.wrap .i64 ((IntKind.wrap .i64 (F+T))+1)))
noncomputable def C3:Nat→List MV→Option MV:=bS 123 (gd sB) Pf
theorem BM:aC Try.prog cx C3:=q9 Io [] 9 [] [] [] Try.func123 (by kernel_rfl) (bU (fun _=>by kernel_rfl))
noncomputable def sC (a a1:MV):Option MV:=
 gA a fun cs=>
 pe .i64 .i64 cs fun F T=>
 gL a1 fun gX=>
 bd (Loop (fun fO=>
 gC fO fun m2 pU=>
 gI .i64 m2 fun x=>
 gC pU fun m3 rb=>
 gS m3 fun x1=>
 gC rb fun m4 zW=>
 gI .i64 m4 fun x2=>
 gN zW<|
 cI gX fun len=>
 aR (decide (x2<(len:Int))) (
 idx gX x2 fun y=>
 gA y fun iB=>
 cP .i64 .i64 .i64 iB fun By jW Has View Value Proof=>
 bd (En (.list Proof)) fun rA=>
 gT rA fun vs=>
 Eh .i64 vs fun x3 x4 x5=>
 bd (
 aR x5 (
 some [.b (decide (x<x3))]) (
 some [.b false])) fun iO=>
 gC iO fun Ik mI=>
 gB Ik fun x6=>
 gN mI<|
 bd (
 aR x6 (
 some (0,[.i .i64 x3,.s x4])) (
 some (0,[.i .i64 x,.s x1]))) fun p1=>
 cE (Nat.beq p1.1 0)<|
 gC p1.2 fun OZ rc=>
 gI .i64 OZ fun x7=>
 gC rc fun O0 rf=>
 gS O0 fun x8=>
 gN rf<|
 some (.inl [.i .i64 x7,.s x8,.i .i64 (IntKind.wrap .i64 (x2+1))])) (
 some (.inr (2,[.i .i64 x,.s x1])))) [.i .i64 (-1),.s ([]:List UInt8),.i .i64 0]) fun p=>
 cE (Nat.beq p.1 2)<|
 gC p.2 fun Ll rh=>
 gI .i64 Ll fun x9=>
 gC rh fun UQ rj=>
 gS UQ fun EU=>
 gN rj<|
 bd (Loop (fun Ag=>
 gC Ag fun UR vt=>
 gI .i64 UR fun Bd=>
 gN vt<|
 cI gX fun dY=>
 aR (decide (Bd<(dY:Int))) (
 bd (Loop (fun Pg=>
 pe .i64 .i64 Pg fun Il EV=>
 cI gX fun sK=>
 aR (decide (EV<(sK:Int))) (
 bd (
 idx gX EV fun y1=>
 gA y1 fun lp=>
 cP .i64 .i64 .i64 lp fun z6 RC wG cV cj lm=>
 aR wG (
 idx gX EV fun y2=>
 gA y2 fun kf=>
 cP .i64 .i64 .i64 kf fun Ii acG O6 mG gp wK=>
 aR (decide (x9<mG)) (
 idx gX Bd fun y3=>
 gA y3 fun O8=>
 cP .i64 .i64 .i64 O8 fun YH acH Pa CO Ai El=>
 aR Pa (
 idx gX Bd fun y4=>
 gA y4 fun YC=>
 cP .i64 .i64 .i64 YC fun By4 ah4 UU CP Ek Im=>
 aR (decide (x9<CP)) (
 idx gX EV fun y5=>
 gA y5 fun YE=>
 cP .i64 .i64 .i64 YE fun By5 ah6 YL xG wL Pj=>
 idx gX Bd fun y6=>
 gA y6 fun cs7=>
 cP .i64 .i64 .i64 cs7 fun By6 ah7 YM Pb Aj Pk=>
 some [.b (decide (wL=Aj))]) (
 some [.b false])) (
 some [.b false])) (
 some [.b false])) (
 some [.b false])) fun pH=>
 gC pH fun m58 Pl=>
 gB m58 fun O3=>
 gN Pl<|
 bd (
 aR O3 (
 some (0,[.i .i64 (IntKind.wrap .i64 (Il+1))])) (
 some (0,[.i .i64 Il]))) fun p4=>
 cE (Nat.beq p4.1 0)<|
 gC p4.2 fun m59 Pm=>
 gI .i64 m59 fun Lm=>
 gN Pm<|
 some (.inl [.i .i64 Lm,.i .i64 (IntKind.wrap .i64 (EV+1))])) (
 some (.inr (6,[.i .i64 Il])))) [.i .i64 0,.i .i64 0]) fun p3=>
 cE (Nat.beq p3.1 6)<|
 gC p3.2 fun m60 YN=>
 gI .i64 m60 fun RD=>
 gN YN<|
 bd (sB (.agg [.i .i64 F,.i .i64 T])) fun bI=>
 gI .i64 bI fun Mj=>
 aR (decide (Mj≤RD)) (
 idx gX Bd fun y7=>
 gA y7 fun cs8=>
 cP .i64 .i64 .i64 cs8 fun By7 ah8 ah9 SX Pn acL=>
 some (.inr (1,[.s Pn,.b true]))) (
 some (.inl [.i .i64 (IntKind.wrap .i64 (Bd+1))]))) (
 some (.inr (4,[])))) [.i .i64 0]) fun p2=>
 aR (Nat.beq p2.1 4) (
 gN p2.2<|
 some (.dy [.s EU,.b (decide ((0:Int)≤x9))])) (
 cE (Nat.beq p2.1 1)<|
 gC p2.2 fun m67 YO=>
 gS m67 fun ZY=>
 gC YO fun m68 YP=>
 gB m68 fun ZZ=>
 gN YP<|
 some (.dy [.s ZY,.b ZZ]))
noncomputable def C4:Nat→List MV→Option MV:=bS 100 (nd sC) C3
theorem BN:aC Try.prog cx C4:=xZ BM [] [] 108 [] [] [] [(15,[0,1,2,3,4,5,6,7,8,9,10,11,12,13,14,15,16,17,18,19,20,21,22,23,24,25,26,27,28,29,30,31,32,33,34,35,36,37,38,39,40,41,42])] [(15,⟨[1,2,6,7,12,13,14],[],[],[(0,[(93,.sc (.k .b))])],[]⟩),(6,⟨[1,2,6,7,8,9,10,11],[],[],[(0,[(36,.sc (.k .b))])],[]⟩)] [(16,⟨[1,2,6,7,12,14],[],[],[(0,[(13,.sc (.k (.i .i64)))])],[]⟩),(7,⟨[1,2,8,9,10],[],[],[(0,[(6,.sc (.k (.i .i64))),(7,.sc (.k .s))])],[]⟩)] [(13,⟨[1,2,6,7,12],[],[(13,.sc (.k (.i .i64))),(14,.sc (.k (.i .i64)))],[(6,[(13,.sc (.k (.i .i64)))])],[]⟩),(9,⟨[1,2,6,7],[],[(12,.sc (.k (.i .i64)))],[(1,[(4,.sc (.k .s)),(5,.sc (.k .b))]),(4,[])],[]⟩),(3,⟨[1,2],[],[(6,.sc (.k (.i .i64))),(7,.sc (.k .s)),(8,.sc (.k (.i .i64)))],[(2,[(6,.sc (.k (.i .i64))),(7,.sc (.k .s))])],[]⟩)] [] Try.func100 (by kernel_rfl) (dq (fun _ _=>by kernel_rfl))
noncomputable def nM (sA view lA value:MV):Option MV:=
 gA sA fun cs=>
 pe .i64 .i64 cs fun F T=>
 gI .i64 view fun gn=>
 gL lA fun zV=>
 gS value fun ko=>
 bd (sw (.agg [.i .i64 F,.i .i64 T]) (.i .i64 gn) (.list zV)) fun rA=>
 gB rA fun x=>
 aR (!x) (
 some (.b false)) (
 bd (sC (.agg [.i .i64 F,.i .i64 T]) (.list zV)) fun bI=>
 gT bI fun vs=>
 gC vs fun m2 fO=>
 gS m2 fun x1=>
 gC fO fun m3 pU=>
 gB m3 fun x2=>
 gN pU<|
 bd (
 aR (!x2) (
 some [.b true]) (
 some [.b (decide (x1=ko))])) fun iO=>
 gC iO fun m4 rb=>
 gB m4 fun x3=>
 gN rb<|
 some (.b x3))
noncomputable def xH:Nat→List MV→Option MV:=bS 59 (OE nM) C4
theorem yf:aC Try.prog cx xH:=q9 BN [] 29 [(4,⟨[3,9,10],[],[],[(0,[(8,.sc (.k .b))])],[]⟩)] [] [] Try.func59 (by kernel_rfl) (Ef (fun _ _ _ _=>by kernel_rfl))
noncomputable def qa (sA t:MV):Option MV:=
 gA sA fun cs=>
 pe .i64 .i64 cs fun F T=>
 gA t fun iB=>
 gC iB fun m2 fO=>
 gL m2 fun L=>
 gN fO<|
 bd (kn (.agg [.i .i64 F,.i .i64 T])) fun rA=>
 gI .i64 rA fun x=>
 bd (pX (.agg [.list L]) (.i .i64 x)) fun bI=>
 gT bI fun vs=>
 Eh .i64 vs fun x1 x2 x3=>
 aR (!x3) (
 some (.dy [.list ([]:List MV),.b false])) (
 bd (jI (.agg [.list L]) (.i .i64 x1) (.s x2)) fun cJ=>
 gL cJ fun x4=>
 bd (kn (.agg [.i .i64 F,.i .i64 T])) fun dL=>
 gI .i64 dL fun x5=>
 cI x4 fun len=>
 cE (decide ((0:Int)≤0∧(0:Int)≤x5∧x5≤(len:Int)))<|
 some (.dy [.list (List.drop (Int.toNat 0) (List.take (Int.toNat x5) x4)),.b true]))
noncomputable def Aw:Nat→List MV→Option MV:=bS 95 (nd qa) xH
theorem Ax:aC Try.prog cx Aw:=xZ yf [] [] 26 [] [] [] [(1,[0,1,2,3,4,5,6,7,8,9,10]),(4,[0,1,2,4,3,5,6,7,8])] [] [] [] [] Try.func95 (by kernel_rfl) (dq (fun _ _=>by kernel_rfl))
noncomputable def kJ (a a1:MV):Option MV:=
 gA a fun cs=>
 bK .i64 .i64 .i64 .i64 .i64 cs fun SF ST Me View Has At Value Proof dw=>
 gA a1 fun iB=>
 dv .i64 .i64 iB fun By cV cj=>
 bd (
 bd (tV (.agg [.i .i64 SF,.i .i64 ST])) fun rA=>
 gI .i64 rA fun x=>
 aR (decide (x≤By)) (
 some [.b true]) (
 some [.b (!decide (cV=View))])) fun vs=>
 gC vs fun Ij kV=>
 gB Ij fun x1=>
 gN kV<|
 aR x1 (
 some (.dy [.agg (bh SF ST Me View Has At Value Proof dw),.list ([]:List MV),.b false])) (
 bd (su (.agg [.list dw]) (.agg [.i .i64 By,.i .i64 cV,.s cj])) fun bI=>
 gT bI fun iO=>
 gC iO fun O2 mH=>
 gA O2 fun lp=>
 gC lp fun Ik Af=>
 gL Ik fun L=>
 gN Af<|
 gC mH fun OZ mI=>
 gB OZ fun x2=>
 gN mI<|
 bd (qa (.agg [.i .i64 SF,.i .i64 ST]) (.agg [.list L])) fun cJ=>
 gT cJ fun pH=>
 gC pH fun O0 rc=>
 gL O0 fun x3=>
 gC rc fun Ll rf=>
 gB Ll fun x4=>
 gN rf<|
 bd (oX (.list Proof)) fun dL=>
 gT dL fun OY=>
 Eh .i64 OY fun x5 x6 x7=>
 bd (
 bd (lX (.agg [.i .i64 By,.i .i64 cV,.s cj])) fun jX=>
 gB jX fun x8=>
 aR (!x8) (
 some [.b true]) (
 aR (!x4) (
 some [.b true]) (
 some [.b (decide (View≤x5))]))) fun UW=>
 gC UW fun UT vt=>
 gB UT fun x9=>
 gN vt<|
 aR x9 (
 some (.dy [.agg (bh SF ST Me View Has At Value Proof L),.list ([]:List MV),.b false])) (
 some (.dy [.agg (bh SF ST Me View Has At Value x3 L),.list x3,.b true])))
noncomputable def tl:Nat→List MV→Option MV:=bS 56 (nd kJ) Aw
theorem vD:aC Try.prog cx tl:=xZ Ax [] [] 67 [] [] [] [(1,[0,1,2,3,4,5,6,7,8,9,10,11,12])] [(6,⟨[2,3,4,7,8,9],[],[],[(0,[(61,.sc (.k .b))])],[]⟩),(1,⟨[2,3,4],[],[],[(0,[(24,.sc (.k .b))])],[]⟩)] [] [] [] Try.func56 (by kernel_rfl) (dq (fun _ _=>by kernel_rfl))
noncomputable def kq (a a1 a2:MV):Option MV:=
 gA a fun cs=>
 pe .i64 .i64 cs fun F T=>
 gI .i64 a1 fun gX=>
 gL a2 fun Lo=>
 bd (gV (.agg [.i .i64 F,.i .i64 T]) (.i .i64 gX)) fun rA=>
 gT rA fun vs=>
 gC vs fun m2 fO=>
 gA m2 fun iB=>
 bK .i64 .i64 .i64 .i64 .i64 iB fun SF ST Me View Has At Value Proof dw=>
 gC fO fun Ij kV=>
 gI .i64 Ij fun x=>
 gN kV<|
 bd (
 aR (!decide (x=0)) (
 some [.b true]) (
 cI Lo fun len=>
 some [.b (decide ((40:Int)<(len:Int)))])) fun iO=>
 gC iO fun O2 mH=>
 gB O2 fun x1=>
 gN mH<|
 aR x1 (
 bd (lY) fun bI=>
 gB bI fun x2=>
 some (.b x2)) (
 bd (Loop (fun Af=>
 gC Af fun Ik mI=>
 gI .i64 Ik fun x3=>
 gC mI fun OZ rc=>
 gI .i64 OZ fun x4=>
 gC rc fun O0 rf=>
 gI .i64 O0 fun x5=>
 gC rf fun Ll rh=>
 gI .i64 Ll fun x6=>
 gC rh fun UQ rj=>
 gB UQ fun x7=>
 gC rj fun UR Ag=>
 gI .i64 UR fun x8=>
 gC Ag fun Yw vt=>
 gS Yw fun x9=>
 gC vt fun UT Pg=>
 gL UT fun EU=>
 gC Pg fun m22 Pe=>
 gL m22 fun Bd=>
 gC Pe fun m23 O4=>
 gI .i64 m23 fun Il=>
 gC O4 fun m24 vp=>
 gI .i64 m24 fun EV=>
 gC vp fun US Ah=>
 gS US fun O3=>
 pe .i64 .i64 Ah fun Lm RD=>
 cI Lo fun dY=>
 aR (decide (RD<(dY:Int))) (
 idx Lo RD fun y=>
 gA y fun lp=>
 gC lp fun UP Ad=>
 gI .i64 UP fun Kind=>
 gC Ad fun Ia Ae=>
 gI .i64 Ia fun SY=>
 gC Ae fun Yu Gh=>
 gS Yu fun Ip=>
 gC Gh fun Yv Gi=>
 gL Yv fun Po=>
 dv .i64 .i64 Gi fun RG Lp Ay=>
 bd (
 bd (sv (.list Po)) fun cJ=>
 gB cJ fun Mj=>
 aR (!Mj) (
 some [.b true]) (
 aR (decide ((6100:Int)<(Ip.length:Int))) (
 some [.b true]) (
 some [.b (decide ((6100:Int)<(Ay.length:Int)))]))) fun pH=>
 gC pH fun m35 O7=>
 gB m35 fun ZY=>
 gN O7<|
 aR ZY (
 bd (lY) fun dL=>
 gB dL fun ZZ=>
 some (.inr (1,[.b ZZ]))) (
 idx Lo RD fun y1=>
 gA y1 fun kf=>
 gC kf fun m36 YQ=>
 gI .i64 m36 fun J3=>
 gC YQ fun m37 YR=>
 gI .i64 m37 fun acM=>
 gC YR fun m38 YS=>
 gS m38 fun Z3=>
 gC YS fun m39 O9=>
 gL m39 fun acN=>
 dv .i64 .i64 O9 fun YT UY SZ=>
 bd (
 aR (decide (J3=0)) (
 bd (gm (.agg (bh x3 x4 x5 x6 x7 x8 x9 EU Bd)) (.i .i64 SY)) fun jX=>
 gT jX fun OY=>
 gC OY fun m43 YU=>
 gA m43 fun O8=>
 bK .i64 .i64 .i64 .i64 .i64 O8 fun Yx Yy Yz cV wG YA cj lm vq=>
 gC YU fun m53 YV=>
 gA m53 fun YC=>
 cP .i64 .i64 .i64 YC fun By jW O6 mG gp wK=>
 gC YV fun m60 Pl=>
 gB m60 fun x20=>
 gN Pl<|
 bd (
 aR x20 (
 aR (decide (cV≤x6)) (
 some [.b true]) (
 aR (!decide (jW=cV)) (
 some [.b true]) (
 aR (!decide (By=gX)) (
 some [.b true]) (
 aR (!(decide (O6=(decide ((0:Int)≤EV))))) (
 some [.b true]) (
 aR O6 (
 aR (!decide (mG=EV)) (
 some [.b true]) (
 some [.b (!decide (gp=O3))])) (
 some [.b false])))))) (
 some [.b false])) fun UW=>
 gC UW fun m61 Pm=>
 gB m61 fun x21=>
 gN Pm<|
 aR x21 (
 some (1,[.b false])) (
 bd (
 aR x20 (
 cI wK fun sK=>
 aR (!(decide ((decide ((0:Int)≤Lm))=(decide ((0:Int)<(sK:Int)))))) (
 some [.b true]) (
 cI wK fun Pd=>
 aR (decide ((0:Int)<(Pd:Int))) (
 idx wK 0 fun y2=>
 gA y2 fun YE=>
 dv .i64 .i64 YE fun z6 CO Ai=>
 some [.b (!decide (CO=Lm))]) (
 some [.b false]))) (
 some [.b false])) fun vs5=>
 gC vs5 fun m65 YW=>
 gB m65 fun x22=>
 gN YW<|
 aR x22 (
 some (1,[.b false])) (
 some (0,[.i .i64 Yx,.i .i64 Yy,.i .i64 Yz,.i .i64 cV,.b wG,.i .i64 YA,.s cj,.list lm,.list vq,.i .i64 Il,.i .i64 EV,.s O3,.i .i64 Lm])))) (
 bd (
 aR (decide (J3=1)) (
 bd (dK (.agg (bh x3 x4 x5 x6 x7 x8 x9 EU Bd)) (.i .i64 SY) (.s Ip) (.list Po)) fun ng=>
 gT ng fun vs6=>
 gC vs6 fun m66 YX=>
 gA m66 fun cs7=>
 bK .i64 .i64 .i64 .i64 .i64 cs7 fun SF2 ST2 Me2 CP Pa At2 Ek El JV=>
 gC YX fun m76 YY=>
 gA m76 fun cs8=>
 dv .i64 .i64 cs8 fun Ii xG wL=>
 gC YY fun m80 YZ=>
 gB m80 fun x23=>
 gN YZ<|
 bd (
 aR x23 (
 aR (!decide (Ii=gX)) (
 some [.b true]) (
 aR (!decide (xG=x6)) (
 some [.b true]) (
 aR (decide (xG≤EV)) (
 some [.b true]) (
 aR (!decide (wL=Ip)) (
 some [.b true]) (
 aR (decide ((0:Int)<xG)) (
 bd (oZ (.agg [.i .i64 F,.i .i64 T])) fun Ib=>
 gA Ib fun cs9=>
 pe .i64 .i64 cs9 fun F1 T1=>
 bd (nM (.agg [.i .i64 F1,.i .i64 T1]) (.i .i64 xG) (.list Po) (.s wL)) fun CJ=>
 gB CJ fun x24=>
 some [.b (!x24)]) (
 some [.b false])))))) (
 some [.b false])) fun vs7=>
 gC vs7 fun m83 Y0=>
 gB m83 fun x25=>
 gN Y0<|
 aR x25 (
 some (1,[.b false])) (
 bd (
 aR x23 (
 some (0,[.i .i64 Ii,.i .i64 xG,.s wL])) (
 some (0,[.i .i64 Il,.i .i64 EV,.s O3]))) fun p3=>
 cE (Nat.beq p3.1 0)<|
 dv .i64 .i64 p3.2 fun x26 x27 x28=>
 some (0,[.i .i64 SF2,.i .i64 ST2,.i .i64 Me2,.i .i64 CP,.b Pa,.i .i64 At2,.s Ek,.list El,.list JV,.i .i64 x26,.i .i64 x27,.s x28,.i .i64 Lm]))) (
 bd (
 aR (decide (J3=2)) (
 bd (kJ (.agg (bh x3 x4 x5 x6 x7 x8 x9 EU Bd)) (.agg [.i .i64 RG,.i .i64 Lp,.s Ay])) fun xY=>
 gT xY fun vs8=>
 gC vs8 fun m87 Y1=>
 gA m87 fun acO=>
 bK .i64 .i64 .i64 .i64 .i64 acO fun SF3 ST3 Me3 Pb UU At3 Aj Im JW=>
 gC Y1 fun m97 Y2=>
 gL m97 fun Z4=>
 gC Y2 fun m98 Y3=>
 gB m98 fun x30=>
 gN Y3<|
 bd (
 aR x30 (
 cI Z4 fun UX=>
 aR (decide ((UX:Int)=0)) (
 some [.b true]) (
 idx Z4 0 fun y3=>
 gA y3 fun acP=>
 dv .i64 .i64 acP fun YH SX Pn=>
 aR (!decide (SX=x6)) (
 some [.b true]) (
 idx Z4 0 fun y4=>
 gA y4 fun acQ=>
 dv .i64 .i64 acQ fun By4 Y4 acR=>
 some [.b (decide (Y4≤Lm))]))) (
 some [.b false])) fun vs9=>
 gC vs9 fun acS UZ=>
 gB acS fun x31=>
 gN UZ<|
 aR x31 (
 some (1,[.b false])) (
 bd (
 aR x30 (
 idx Z4 0 fun y5=>
 gA y5 fun acT=>
 dv .i64 .i64 acT fun By5 Y5 acU=>
 some (0,[.i .i64 Y5])) (
 some (0,[.i .i64 Lm]))) fun p5=>
 cE (Nat.beq p5.1 0)<|
 gC p5.2 fun acV U0=>
 gI .i64 acV fun x32=>
 gN U0<|
 some (0,[.i .i64 SF3,.i .i64 ST3,.i .i64 Me3,.i .i64 Pb,.b UU,.i .i64 At3,.s Aj,.list Im,.list JW,.i .i64 x32]))) (
 bd (
 aR (decide (J3=3)) (
 bd (kI (.agg (bh x3 x4 x5 x6 x7 x8 x9 EU Bd))) fun P5=>
 gL P5 fun x33=>
 bd (kH (.agg [.i .i64 F,.i .i64 T]) (.i .i64 gX) (.list x33)) fun ve=>
 gT ve fun acW=>
 gC acW fun acX U1=>
 gA acX fun acY=>
 bK .i64 .i64 .i64 .i64 .i64 acY fun SF4 ST4 Me4 Pp YL At4 RH Pj RI=>
 gC U1 fun acZ U2=>
 gI .i64 acZ fun x34=>
 gN U2<|
 bd (
 aR (!decide (x34=0)) (
 some [.b true]) (
 some [.b (!decide (Pp=x6))])) fun ac0=>
 gC ac0 fun ac1 U3=>
 gB ac1 fun x35=>
 gN U3<|
 aR x35 (
 some (1,[.b false])) (
 some (0,(bh SF4 ST4 Me4 Pp YL At4 RH Pj RI)))) (
 some (0,(bh x3 x4 x5 x6 x7 x8 x9 EU Bd)))) fun p6=>
 aR (Nat.beq p6.1 1) (
 gC p6.2 fun ac2 U4=>
 gB ac2 fun x36=>
 gN U4<|
 some (1,[.b x36])) (
 cE (Nat.beq p6.1 0)<|
 bK .i64 .i64 .i64 .i64 .i64 p6.2 fun x37 x38 x39 x40 x41 x42 x43 x44 x45=>
 some (0,[.i .i64 x37,.i .i64 x38,.i .i64 x39,.i .i64 x40,.b x41,.i .i64 x42,.s x43,.list x44,.list x45,.i .i64 Lm])))) fun p4=>
 aR (Nat.beq p4.1 1) (
 gC p4.2 fun ac3 U5=>
 gB ac3 fun x46=>
 gN U5<|
 some (1,[.b x46])) (
 cE (Nat.beq p4.1 0)<|
 gC p4.2 fun ac4 U6=>
 gI .i64 ac4 fun x47=>
 gC U6 fun ac5 U7=>
 gI .i64 ac5 fun x48=>
 gC U7 fun ac6 U8=>
 gI .i64 ac6 fun x49=>
 gC U8 fun ac7 U9=>
 gI .i64 ac7 fun x50=>
 gC U9 fun ac8 Va=>
 gB ac8 fun x51=>
 gC Va fun ac9 Vb=>
 gI .i64 ac9 fun x52=>
 gC Vb fun ada Vc=>
 gS ada fun x53=>
 gC Vc fun adb Vd=>
 gL adb fun x54=>
 vf .i64 Vd fun x55 x56=>
 some (0,[.i .i64 x47,.i .i64 x48,.i .i64 x49,.i .i64 x50,.b x51,.i .i64 x52,.s x53,.list x54,.list x55,.i .i64 Il,.i .i64 EV,.s O3,.i .i64 x56])))) fun p2=>
 aR (Nat.beq p2.1 1) (
 gC p2.2 fun ade Ve=>
 gB ade fun x57=>
 gN Ve<|
 some (1,[.b x57])) (
 cE (Nat.beq p2.1 0)<|
 gC p2.2 fun adf Vf=>
 gI .i64 adf fun x58=>
 gC Vf fun adg Vg=>
 gI .i64 adg fun x59=>
 gC Vg fun adh Vh=>
 gI .i64 adh fun x60=>
 gC Vh fun adi Vi=>
 gI .i64 adi fun x61=>
 gC Vi fun adj Vj=>
 gB adj fun x62=>
 gC Vj fun adk Vk=>
 gI .i64 adk fun x63=>
 gC Vk fun adl Vl=>
 gS adl fun x64=>
 gC Vl fun adm Vm=>
 gL adm fun x65=>
 gC Vm fun adn Vn=>
 gL adn fun x66=>
 gC Vn fun ado Vo=>
 gI .i64 ado fun x67=>
 gC Vo fun adp Vp=>
 gI .i64 adp fun x68=>
 gC Vp fun adq Vq=>
 gS adq fun x69=>
 gC Vq fun adr Vr=>
 gI .i64 adr fun x70=>
 gN Vr<|
 some (0,[.i .i64 x58,.i .i64 x59,.i .i64 x60,.i .i64 x61,.b x62,.i .i64 x63,.s x64,.list x65,.list x66,.i .i64 x67,.i .i64 x68,.s x69,.i .i64 x70])))) fun p1=>
 aR (Nat.beq p1.1 1) (
 gC p1.2 fun ads Vs=>
 gB ads fun x71=>
 gN Vs<|
 some (.inr (1,[.b x71]))) (
 cE (Nat.beq p1.1 0)<|
 gC p1.2 fun adt Vt=>
 gI .i64 adt fun x72=>
 gC Vt fun adu Vu=>
 gI .i64 adu fun x73=>
 gC Vu fun adv Vv=>
 gI .i64 adv fun x74=>
 gC Vv fun adw Vw=>
 gI .i64 adw fun x75=>
 gC Vw fun ady Vx=>
 gB ady fun x76=>
 gC Vx fun adz Vy=>
 gI .i64 adz fun x77=>
 gC Vy fun adA Vz=>
 gS adA fun x78=>
 gC Vz fun adB VA=>
 gL adB fun x79=>
 gC VA fun adC VB=>
 gL adC fun x80=>
 gC VB fun adD VC=>
 gI .i64 adD fun x81=>
 gC VC fun adE VD=>
 gI .i64 adE fun x82=>
 gC VD fun adF VE=>
 gS adF fun x83=>
 gC VE fun adG VF=>
 gI .i64 adG fun x84=>
 gN VF<|
 bd (
 bd (sm (.agg (bh x72 x73 x74 x75 x76 x77 x78 x79 x80))) fun OP=>
 gA OP fun adH=>
 bK .i64 .i64 .i64 .i64 .i64 adH fun SF5 ST5 Me5 VG YM At5 RJ Pk RL=>
 bd (sr (.agg (bh SF5 ST5 Me5 VG YM At5 RJ Pk RL))) fun Rw=>
 gB Rw fun x85=>
 aR (!x85) (
 some [.b true]) (
 some [.b (decide (x75<x6))])) fun adI=>
 gC adI fun adJ VH=>
 gB adJ fun x86=>
 gN VH<|
 aR x86 (
 some (.inr (1,[.b false]))) (
 some (.inl [.i .i64 x72,.i .i64 x73,.i .i64 x74,.i .i64 x75,.b x76,.i .i64 x77,.s x78,.list x79,.list x80,.i .i64 x81,.i .i64 x82,.s x83,.i .i64 x84,.i .i64 (IntKind.wrap .i64 (RD+1))]))))) (
 some (.inr (2,[])))) [.i .i64 SF,.i .i64 ST,.i .i64 Me,.i .i64 View,.b Has,.i .i64 At,.s Value,.list Proof,.list dw,.i .i64 gX,.i .i64 (-1),.s ([]:List UInt8),.i .i64 (-1),.i .i64 0]) fun p=>
 aR (Nat.beq p.1 2) (
 gN p.2<|
 bd (lY) fun Rx=>
 gB Rx fun x87=>
 some (.b x87)) (
 cE (Nat.beq p.1 1)<|
 gC p.2 fun adK VI=>
 gB adK fun x88=>
 gN VI<|
 some (.b x88)))
noncomputable def wN:Nat→List MV→Option MV:=bS 10 (Ee kq) tl
theorem rr:aC Try.prog cx wN:=xZ vD [] [] 288 [] [] [] [(23,[0,1,2,3,4,5,6,7,8,9,10,11,12,13,14,15,16,17,18,19,20,21,22,23,24,25,26,27,28,29,30,31,33,34,35,36,37,38,32,39,40,41,42,43]),(36,[0,1,2,3,4,5,6,7,8,9,10])] [(40,⟨[1,2,3,7,9,10,11,13],[],[],[(0,[(286,.sc (.k .b))])],[]⟩),(18,⟨[1,2,3,7,9,10,11,13,14,15,16],[],[],[(0,[(157,.sc (.k .b))])],[]⟩),(16,⟨[1,2,3,7,9,10,11,13,14,15,16],[],[],[(0,[(132,.sc (.k .b))])],[]⟩),(23,⟨[1,2,3,7,9,10,11,12,13,17,18,19],[],[],[(0,[(216,.sc (.k .b))])],[]⟩),(30,⟨[1,2,3,7,9,10,11,13,20,21,22],[],[],[(0,[(251,.sc (.k .b))])],[]⟩),(37,⟨[1,2,3,7,9,10,11,13,23,24],[],[],[(0,[(275,.sc (.k .b))])],[]⟩),(10,⟨[1,2,3,7,9,10,11,12],[],[],[(0,[(68,.sc (.k .b))])],[]⟩),(2,⟨[1,2,3,7,8],[],[],[(0,[(37,.sc (.k .b))])],[]⟩)] [(26,⟨[1,2,3,7,10,11,13,17,18],[],[],[(0,[(9,.box [.k (.i .i64),.k (.i .i64),.k .s])])],[]⟩),(33,⟨[1,2,3,7,9,11,13,20,21],[],[],[(0,[(10,.sc (.k (.i .i64)))])],[]⟩),(36,⟨[1,2,3,9,10,11,13],[],[],[(0,[(7,.box [.k (.i .i64),.k (.i .i64),.k (.i .i64),.k (.i .i64),.k .b,.k (.i .i64),.k .s,.k .l,.k .l])]),(1,[(6,.sc (.k .b))])],[]⟩),(29,⟨[1,2,3,9,11,12,13,76],[],[],[(0,[(7,.box [.k (.i .i64),.k (.i .i64),.k (.i .i64),.k (.i .i64),.k .b,.k (.i .i64),.k .s,.k .l,.k .l]),(10,.sc (.k (.i .i64)))]),(1,[(6,.sc (.k .b))])],[]⟩),(22,⟨[1,2,3,11,12,13,76],[],[],[(0,[(7,.box [.k (.i .i64),.k (.i .i64),.k (.i .i64),.k (.i .i64),.k .b,.k (.i .i64),.k .s,.k .l,.k .l]),(9,.box [.k (.i .i64),.k (.i .i64),.k .s]),(10,.sc (.k (.i .i64)))]),(1,[(6,.sc (.k .b))])],[]⟩),(15,⟨[1,2,3,11,12,13,76],[],[],[(0,[(7,.box [.k (.i .i64),.k (.i .i64),.k (.i .i64),.k (.i .i64),.k .b,.k (.i .i64),.k .s,.k .l,.k .l]),(9,.box [.k (.i .i64),.k (.i .i64),.k .s]),(10,.sc (.k (.i .i64)))]),(1,[(6,.sc (.k .b))])],[]⟩)] [(7,⟨[1,2,3],[],[(7,.box [.k (.i .i64),.k (.i .i64),.k (.i .i64),.k (.i .i64),.k .b,.k (.i .i64),.k .s,.k .l,.k .l]),(9,.box [.k (.i .i64),.k (.i .i64),.k .s]),(10,.sc (.k (.i .i64))),(11,.sc (.k (.i .i64)))],[(1,[(6,.sc (.k .b))]),(2,[])],[]⟩)] [] Try.func10 (by kernel_rfl) (pP (fun _ _ _=>by kernel_rfl))
end Dn.S
