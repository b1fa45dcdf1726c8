import Derived.Test.YtmdlghpieagfhaaGreatDnYE
import Derived.Test.YtmdlghpieagfhaaGreatDnB
import Derived.Test.YtmdlghpieagfhaaGreatRows
import Derived.ProofKit
import Derived.Test.YtmdlghpieagfhaaGreatDnPCalm8
/- The law SlotCalm holds. Conditions: none. -/
set_option linter.unusedVariables false
set_option linter.unusedSimpArgs false
set_option maxRecDepth 100000
namespace Go.Proofs.YtmdlghpieagfhaaGreat
open Go Go.ChangeShapes Go.WideShapes Go.ChangeAt Go.RowKit Dn Dn.S
theorem rd3: ∀{n:Nat} {ms:List MV},MT Tryz.prog n 3 ms-> ∃x:Int,ms=[.i .i64 x]/\(Lit.int .i64 x).wf=true:=by
 intro n ms h;cases n with
 |zero=>exact h.elim
 |succ d=>unfold MT at h;rw [Tryz.underlying3] at h;obtain ⟨x,rfl,h⟩:=h;exact ⟨x,rfl,h⟩
theorem me3 {n:Nat}{m:MV}(h:ME Tryz.prog (MT Tryz.prog n) 3 m): ∃x:Int,m=(MV.i .i64) x/\(Lit.int .i64 x).wf=true:=by unfold ME at h;rw [Tryz.underlying3] at h;obtain ⟨x,e,w⟩:=rd3 h;exact ⟨x,by simpa using e,w⟩
def wfSizeSize (x:ae):Prop:=((Lit.int .i64 x.F).wf=true)/\((Lit.int .i64 x.T).wf=true)
theorem rd23: ∀{n:Nat} {ms:List MV},MT Tryz.prog n 23 ms-> ∃x:ae,ms=[.i .i64 x.F,.i .i64 x.T]/\wfSizeSize x:=by
 intro n ms h;cases n with
 |zero=>exact h.elim
 |succ d=>unfold MT at h;rw [Tryz.underlying23] at h;change FT (MT Tryz.prog d) [3,3] ms at h;obtain ⟨_,_,rfl,h0,_,_,rfl,h1,rfl⟩:=h;obtain ⟨x0,rfl,w0⟩:=rd3 h0;obtain ⟨x1,rfl,w1⟩:=rd3 h1;exact ⟨⟨x0,x1⟩,by simp,w0,w1⟩
theorem me23 {n:Nat}{m:MV}(h:ME Tryz.prog (MT Tryz.prog n) 23 m): ∃x:ae,m=bK x/\wfSizeSize x:=by unfold ME at h;rw [Tryz.underlying23] at h;obtain ⟨cs,rfl,h⟩:=h;obtain ⟨x,rfl,w⟩:=rd23 h;exact ⟨x,rfl,w⟩
theorem rd4: ∀{n:Nat} {ms:List MV},MT Tryz.prog n 4 ms-> ∃x:Bool,ms=[.b x]/\True:=by
 intro n ms h;cases n with
 |zero=>exact h.elim
 |succ d=>unfold MT at h;rw [Tryz.underlying4] at h;obtain ⟨x,rfl⟩:=h;exact ⟨x,rfl,trivial⟩
theorem me4 {n:Nat}{m:MV}(h:ME Tryz.prog (MT Tryz.prog n) 4 m): ∃x:Bool,m=MV.b x/\True:=by unfold ME at h;rw [Tryz.underlying4] at h;obtain ⟨x,e,w⟩:=rd4 h;exact ⟨x,by simpa using e,w⟩
theorem rd24: ∀{n:Nat} {ms:List MV},MT Tryz.prog n 24 ms-> ∃x:List Bool,ms=[.list (x.map MV.b)]/\x.length<=Go.maxLen/\ ∀y∈x,True:=by
 intro n ms h;cases n with
 |zero=>exact h.elim
 |succ d=>unfold MT at h;rw [Tryz.underlying24] at h;obtain ⟨xs,rfl,h1,h2⟩:=h;obtain ⟨L,rfl,h3⟩:=DQ (λx (hx:ME Tryz.prog (MT Tryz.prog d) 4 x)=>me4 hx) h2;exact ⟨L,rfl,by simpa using h1,h3⟩
theorem me24 {n:Nat}{m:MV}(h:ME Tryz.prog (MT Tryz.prog n) 24 m): ∃x:List Bool,m=(QZ MV.b) x/\x.length<=Go.maxLen/\ ∀y∈x,True:=by unfold ME at h;rw [Tryz.underlying24] at h;obtain ⟨x,e,w⟩:=rd24 h;exact ⟨x,by simpa using e,w⟩
theorem rd9: ∀{n:Nat} {ms:List MV},MT Tryz.prog n 9 ms-> ∃x:List UInt8,ms=[.s x]/\x.length<=Go.maxLen:=by
 intro n ms h;cases n with
 |zero=>exact h.elim
 |succ d=>unfold MT at h;rw [Tryz.underlying9] at h;obtain ⟨x,rfl,h⟩:=h;exact ⟨x,rfl,h⟩
theorem me9 {n:Nat}{m:MV}(h:ME Tryz.prog (MT Tryz.prog n) 9 m): ∃x:List UInt8,m=MV.s x/\x.length<=Go.maxLen:=by unfold ME at h;rw [Tryz.underlying9] at h;obtain ⟨x,e,w⟩:=rd9 h;exact ⟨x,by simpa using e,w⟩
theorem rd25: ∀{n:Nat} {ms:List MV},MT Tryz.prog n 25 ms-> ∃x:List (List UInt8),ms=[.list (x.map MV.s)]/\x.length<=Go.maxLen/\ ∀y∈x,y.length<=Go.maxLen:=by
 intro n ms h;cases n with
 |zero=>exact h.elim
 |succ d=>unfold MT at h;rw [Tryz.underlying25] at h;obtain ⟨xs,rfl,h1,h2⟩:=h;obtain ⟨L,rfl,h3⟩:=DQ (λx (hx:ME Tryz.prog (MT Tryz.prog d) 9 x)=>me9 hx) h2;exact ⟨L,rfl,by simpa using h1,h3⟩
theorem me25 {n:Nat}{m:MV}(h:ME Tryz.prog (MT Tryz.prog n) 25 m): ∃x:List (List UInt8),m=(QZ MV.s) x/\x.length<=Go.maxLen/\ ∀y∈x,y.length<=Go.maxLen:=by unfold ME at h;rw [Tryz.underlying25] at h;obtain ⟨x,e,w⟩:=rd25 h;exact ⟨x,by simpa using e,w⟩
def wfL23Cast (x:mb):Prop:=(wfSizeSize x.S)/\(x.bY.length<=Go.maxLen/\ ∀y∈x.bY,True)/\(x.Want.length<=Go.maxLen/\ ∀y∈x.Want,y.length<=Go.maxLen)
theorem rd27: ∀{n:Nat} {ms:List MV},MT Tryz.prog n 27 ms-> ∃x:mb,ms=[.i .i64 x.S.F,.i .i64 x.S.T,.list (x.bY.map MV.b),.list (x.Want.map MV.s)]/\wfL23Cast x:=by
 intro n ms h;cases n with
 |zero=>exact h.elim
 |succ d=>unfold MT at h;rw [Tryz.underlying27] at h;change FT (MT Tryz.prog d) [23,24,25] ms at h;obtain ⟨_,_,rfl,h0,_,_,rfl,h1,_,_,rfl,h2,rfl⟩:=h;obtain ⟨x0,rfl,w0⟩:=rd23 h0;obtain ⟨x1,rfl,w1⟩:=rd24 h1;obtain ⟨x2,rfl,w2⟩:=rd25 h2;exact ⟨⟨x0,x1,x2⟩,by simp,w0,w1,w2⟩
theorem me27 {n:Nat}{m:MV}(h:ME Tryz.prog (MT Tryz.prog n) 27 m): ∃x:mb,m=C3 x/\wfL23Cast x:=by unfold ME at h;rw [Tryz.underlying27] at h;obtain ⟨cs,rfl,h⟩:=h;obtain ⟨x,rfl,w⟩:=rd27 h;exact ⟨x,rfl,w⟩
def wfApiAccept (x:aa):Prop:=((Lit.int .i64 x.By).wf=true)/\((Lit.int .i64 x.View).wf=true)/\(x.Value.length<=Go.maxLen)
theorem rd58: ∀{n:Nat} {ms:List MV},MT Tryz.prog n 58 ms-> ∃x:aa,ms=[.i .i64 x.By,.i .i64 x.View,.s x.Value]/\wfApiAccept x:=by
 intro n ms h;cases n with
 |zero=>exact h.elim
 |succ d=>unfold MT at h;rw [Tryz.underlying58] at h;change FT (MT Tryz.prog d) [3,3,9] ms at h;obtain ⟨_,_,rfl,h0,_,_,rfl,h1,_,_,rfl,h2,rfl⟩:=h;obtain ⟨x0,rfl,w0⟩:=rd3 h0;obtain ⟨x1,rfl,w1⟩:=rd3 h1;obtain ⟨x2,rfl,w2⟩:=rd9 h2;exact ⟨⟨x0,x1,x2⟩,by simp,w0,w1,w2⟩
theorem me58 {n:Nat}{m:MV}(h:ME Tryz.prog (MT Tryz.prog n) 58 m): ∃x:aa,m=ak x/\wfApiAccept x:=by unfold ME at h;rw [Tryz.underlying58] at h;obtain ⟨cs,rfl,h⟩:=h;obtain ⟨x,rfl,w⟩:=rd58 h;exact ⟨x,rfl,w⟩
theorem rd31: ∀{n:Nat} {ms:List MV},MT Tryz.prog n 31 ms-> ∃x:List aa,ms=[.list (x.map ak)]/\x.length<=Go.maxLen/\ ∀y∈x,wfApiAccept y:=by
 intro n ms h;cases n with
 |zero=>exact h.elim
 |succ d=>unfold MT at h;rw [Tryz.underlying31] at h;obtain ⟨xs,rfl,h1,h2⟩:=h;obtain ⟨L,rfl,h3⟩:=DQ (λx (hx:ME Tryz.prog (MT Tryz.prog d) 58 x)=>me58 hx) h2;exact ⟨L,rfl,by simpa using h1,h3⟩
theorem me31 {n:Nat}{m:MV}(h:ME Tryz.prog (MT Tryz.prog n) 31 m): ∃x:List aa,m=(QZ ak) x/\x.length<=Go.maxLen/\ ∀y∈x,wfApiAccept y:=by unfold ME at h;rw [Tryz.underlying31] at h;obtain ⟨x,e,w⟩:=rd31 h;exact ⟨x,by simpa using e,w⟩
def wfApiReport (x:ab):Prop:=((Lit.int .i64 x.By).wf=true)/\((Lit.int .i64 x.fS).wf=true)/\(True)/\((Lit.int .i64 x.View).wf=true)/\(x.Value.length<=Go.maxLen)/\(x.Proof.length<=Go.maxLen/\ ∀y∈x.Proof,wfApiAccept y)
theorem rd60: ∀{n:Nat} {ms:List MV},MT Tryz.prog n 60 ms-> ∃x:ab,ms=[.i .i64 x.By,.i .i64 x.fS,.b x.Has,.i .i64 x.View,.s x.Value,.list (x.Proof.map ak)]/\wfApiReport x:=by
 intro n ms h;cases n with
 |zero=>exact h.elim
 |succ d=>unfold MT at h;rw [Tryz.underlying60] at h;change FT (MT Tryz.prog d) [3,3,4,3,9,31] ms at h;obtain ⟨_,_,rfl,h0,_,_,rfl,h1,_,_,rfl,h2,_,_,rfl,h3,_,_,rfl,h4,_,_,rfl,h5,rfl⟩:=h;obtain ⟨x0,rfl,w0⟩:=rd3 h0;obtain ⟨x1,rfl,w1⟩:=rd3 h1;obtain ⟨x2,rfl,w2⟩:=rd4 h2;obtain ⟨x3,rfl,w3⟩:=rd3 h3;obtain ⟨x4,rfl,w4⟩:=rd9 h4;obtain ⟨x5,rfl,w5⟩:=rd31 h5;exact ⟨⟨x0,x1,x2,x3,x4,x5⟩,by simp,w0,w1,w2,w3,w4,w5⟩
theorem me60 {n:Nat}{m:MV}(h:ME Tryz.prog (MT Tryz.prog n) 60 m): ∃x:ab,m=aG x/\wfApiReport x:=by unfold ME at h;rw [Tryz.underlying60] at h;obtain ⟨cs,rfl,h⟩:=h;obtain ⟨x,rfl,w⟩:=rd60 h;exact ⟨x,rfl,w⟩
theorem rd38: ∀{n:Nat} {ms:List MV},MT Tryz.prog n 38 ms-> ∃x:List ab,ms=[.list (x.map aG)]/\x.length<=Go.maxLen/\ ∀y∈x,wfApiReport y:=by
 intro n ms h;cases n with
 |zero=>exact h.elim
 |succ d=>unfold MT at h;rw [Tryz.underlying38] at h;obtain ⟨xs,rfl,h1,h2⟩:=h;obtain ⟨L,rfl,h3⟩:=DQ (λx (hx:ME Tryz.prog (MT Tryz.prog d) 60 x)=>me60 hx) h2;exact ⟨L,rfl,by simpa using h1,h3⟩
theorem me38 {n:Nat}{m:MV}(h:ME Tryz.prog (MT Tryz.prog n) 38 m): ∃x:List ab,m=(QZ aG) x/\x.length<=Go.maxLen/\ ∀y∈x,wfApiReport y:=by unfold ME at h;rw [Tryz.underlying38] at h;obtain ⟨x,e,w⟩:=rd38 h;exact ⟨x,by simpa using e,w⟩
def wfSlotMsg (x:ai):Prop:=((Lit.int .i64 x.Kind).wf=true)/\((Lit.int .i64 x.cN).wf=true)/\((Lit.int .i64 x.View).wf=true)/\(x.Value.length<=Go.maxLen)/\(x.fC.length<=Go.maxLen/\ ∀y∈x.fC,wfApiReport y)/\(wfApiAccept x.bM)/\(x.Proof.length<=Go.maxLen/\ ∀y∈x.Proof,wfApiAccept y)/\(wfApiReport x.R)
theorem rd62: ∀{n:Nat} {ms:List MV},MT Tryz.prog n 62 ms-> ∃x:ai,ms=[.i .i64 x.Kind,.i .i64 x.cN,.i .i64 x.View,.s x.Value,.list (x.fC.map aG),.i .i64 x.bM.By,.i .i64 x.bM.View,.s x.bM.Value,.list (x.Proof.map ak),.i .i64 x.R.By,.i .i64 x.R.fS,.b x.R.Has,.i .i64 x.R.View,.s x.R.Value,.list (x.R.Proof.map ak)]/\wfSlotMsg x:=by
 intro n ms h;cases n with
 |zero=>exact h.elim
 |succ d=>unfold MT at h;rw [Tryz.underlying62] at h;change FT (MT Tryz.prog d) [3,3,3,9,38,58,31,60] ms at h;obtain ⟨_,_,rfl,h0,_,_,rfl,h1,_,_,rfl,h2,_,_,rfl,h3,_,_,rfl,h4,_,_,rfl,h5,_,_,rfl,h6,_,_,rfl,h7,rfl⟩:=h;obtain ⟨x0,rfl,w0⟩:=rd3 h0;obtain ⟨x1,rfl,w1⟩:=rd3 h1;obtain ⟨x2,rfl,w2⟩:=rd3 h2;obtain ⟨x3,rfl,w3⟩:=rd9 h3;obtain ⟨x4,rfl,w4⟩:=rd38 h4;obtain ⟨x5,rfl,w5⟩:=rd58 h5;obtain ⟨x6,rfl,w6⟩:=rd31 h6;obtain ⟨x7,rfl,w7⟩:=rd60 h7;exact ⟨⟨x0,x1,x2,x3,x4,x5,x6,x7⟩,by simp,w0,w1,w2,w3,w4,w5,w6,w7⟩
theorem me62 {n:Nat}{m:MV}(h:ME Tryz.prog (MT Tryz.prog n) 62 m): ∃x:ai,m=aV x/\wfSlotMsg x:=by unfold ME at h;rw [Tryz.underlying62] at h;obtain ⟨cs,rfl,h⟩:=h;obtain ⟨x,rfl,w⟩:=rd62 h;exact ⟨x,rfl,w⟩
def wfSlotAct (x:dv):Prop:=((Lit.int .i64 x.Kind).wf=true)/\((Lit.int .i64 x.I).wf=true)/\((Lit.int .i64 x.J).wf=true)/\(wfSlotMsg x.M)
theorem rd64: ∀{n:Nat} {ms:List MV},MT Tryz.prog n 64 ms-> ∃x:dv,ms=[.i .i64 x.Kind,.i .i64 x.I,.i .i64 x.J,.i .i64 x.M.Kind,.i .i64 x.M.cN,.i .i64 x.M.View,.s x.M.Value,.list (x.M.fC.map aG),.i .i64 x.M.bM.By,.i .i64 x.M.bM.View,.s x.M.bM.Value,.list (x.M.Proof.map ak),.i .i64 x.M.R.By,.i .i64 x.M.R.fS,.b x.M.R.Has,.i .i64 x.M.R.View,.s x.M.R.Value,.list (x.M.R.Proof.map ak)]/\wfSlotAct x:=by
 intro n ms h;cases n with
 |zero=>exact h.elim
 |succ d=>unfold MT at h;rw [Tryz.underlying64] at h;change FT (MT Tryz.prog d) [3,3,3,62] ms at h;obtain ⟨_,_,rfl,h0,_,_,rfl,h1,_,_,rfl,h2,_,_,rfl,h3,rfl⟩:=h;obtain ⟨x0,rfl,w0⟩:=rd3 h0;obtain ⟨x1,rfl,w1⟩:=rd3 h1;obtain ⟨x2,rfl,w2⟩:=rd3 h2;obtain ⟨x3,rfl,w3⟩:=rd62 h3;exact ⟨⟨x0,x1,x2,x3⟩,by simp,w0,w1,w2,w3⟩
theorem me64 {n:Nat}{m:MV}(h:ME Tryz.prog (MT Tryz.prog n) 64 m): ∃x:dv,m=mM x/\wfSlotAct x:=by unfold ME at h;rw [Tryz.underlying64] at h;obtain ⟨cs,rfl,h⟩:=h;obtain ⟨x,rfl,w⟩:=rd64 h;exact ⟨x,rfl,w⟩
theorem rd28: ∀{n:Nat} {ms:List MV},MT Tryz.prog n 28 ms-> ∃x:List dv,ms=[.list (x.map mM)]/\x.length<=Go.maxLen/\ ∀y∈x,wfSlotAct y:=by
 intro n ms h;cases n with
 |zero=>exact h.elim
 |succ d=>unfold MT at h;rw [Tryz.underlying28] at h;obtain ⟨xs,rfl,h1,h2⟩:=h;obtain ⟨L,rfl,h3⟩:=DQ (λx (hx:ME Tryz.prog (MT Tryz.prog d) 64 x)=>me64 hx) h2;exact ⟨L,rfl,by simpa using h1,h3⟩
theorem me28 {n:Nat}{m:MV}(h:ME Tryz.prog (MT Tryz.prog n) 28 m): ∃x:List dv,m=(QZ mM) x/\x.length<=Go.maxLen/\ ∀y∈x,wfSlotAct y:=by unfold ME at h;rw [Tryz.underlying28] at h;obtain ⟨x,e,w⟩:=rd28 h;exact ⟨x,by simpa using e,w⟩
theorem own:ownKnob Tryz.prog.godebug=none:=by kernel_rfl
theorem laidOut:laidOutB Tryz.prog=true:=by kernel_rfl
theorem sound_law: ∀ms,DP Tryz.prog Tryz.f7.params.toList ms->j8 Tryz.prog cx 7 ms (.b true):=by intro ms h;rw [show Tryz.f7.params= #[27,28] from Tryz.params7] at h;obtain ⟨m0,_,rfl,⟨_,h0⟩,m1,_,rfl,⟨_,h1⟩,h⟩:=h;have h:_=[]:=h;subst h;obtain ⟨x0,rfl,w0⟩:=me27 h0;obtain ⟨x1,rfl,w1⟩:=me28 h1;refine FX.all 7 _ _ ?_;have he:=Pa x0 x1;rw [PC x0 x1] at he;exact he
theorem law_lifted (os:Os)(started:os.Started)(H:Type)(enc:TypeId×Value->H): ReturnsInHanded {} Tryz.checked os 7 .any (Rows.slotCalmSpec.pre6 enc Tryz.prog Tryz.f7 Rows.slotCalmRow.domain false) (Rows.slotCalmSpec.post enc Tryz.prog Tryz.f7 false true false false):=by
 refine returnsInHanded_of_change (C:=Tryz.checked) own started (by kernel_rfl) Tryz.func7 (ChangeSpec.witness6 (enc:=enc) (C:=Tryz.checked) false ⟨#[], #[.agg #[.int .i64 0,.int .i64 0,.slice none 0 0,.slice none 0 0],.slice none 0 0],[]⟩ 7 (by kernel_rfl) (by kernel_rfl) (by kernel_rfl) (by kernel_rfl)) ?_;intro W base args ds gs before hval0 hW hcnd _;refine WW (c:=cx) (tb:=4) Tryz.func7 (by kernel_rfl) (by kernel_rfl) laidOut ?_ (by kernel_rfl) Tryz.underlying4 rfl ?_ hval0 hW (by kernel_rfl) sound_law
 ·intro t ht;rw [show Tryz.f7.params= #[27,28] from Tryz.params7] at ht;rcases List.mem_cons.1 ht with rfl|ht
  ·exact ⟨⟨30,by kernel_rfl⟩,by kernel_rfl,of_decide_eq_true (by kernel_rfl)⟩
  rcases List.mem_cons.1 ht with rfl|ht
  ·exact ⟨⟨30,by kernel_rfl⟩,by kernel_rfl,of_decide_eq_true (by kernel_rfl)⟩
  cases ht
 ·intro ds hd;rw [show Tryz.f7.params= #[27,28] from Tryz.params7] at hd;match ds,hd with
  |[_,_],_=>rfl
theorem law_holds:Rows.SlotCalmSaid:=OpenClaim.holds_of_wide 7 Tryz.f7 rfl rfl rfl rfl rfl rfl rfl ⟨rfl,rfl,rfl,rfl,rfl⟩ rfl rfl rfl rfl rfl (by kernel_rfl) Tryz.func7 (by kernel_rfl) (of_decide_eq_true (by kernel_rfl)) (by unfold Func.isWrapper;first|(rw [if_pos (by decide+kernel)];kernel_rfl)|(rw [if_neg (by decide+kernel)];exact ⟨rfl,rfl⟩)) (λos started H enc _=>law_lifted os started H enc)
end Go.Proofs.YtmdlghpieagfhaaGreat
