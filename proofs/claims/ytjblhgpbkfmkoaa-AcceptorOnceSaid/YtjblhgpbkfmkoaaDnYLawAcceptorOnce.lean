import Derived.Test.YtjblhgpbkfmkoaaDnYE
import Derived.Test.YtjblhgpbkfmkoaaDnC
import Derived.Test.YtjblhgpbkfmkoaaRows
import Derived.ProofKit
import Derived.Test.YtjblhgpbkfmkoaaDnPAcc7
/-
  The law AcceptorOnce holds. Conditions: none.
-/
set_option linter.unusedVariables false
set_option linter.unusedSimpArgs false
set_option maxRecDepth 100000
namespace Go.Proofs.Ytjblhgpbkfmkoaa
open Go Go.ChangeShapes Go.WideShapes Go.ChangeAt Go.RowKit Dn Dn.S
theorem rd3: ∀{n:Nat} {ms:List MV},MT Try.prog n 3 ms→ ∃x:Int,ms=[.i .i64 x]∧(Lit.int .i64 x).wf=true:=by
 intro n ms h
 cases n with
 |zero=>exact h.elim
 |succ d=>
  unfold MT at h
  rw [Try.underlying3] at h
  obtain ⟨x,rfl,h⟩:=h
  exact ⟨x,rfl,h⟩
theorem me3 {n:Nat} {m:MV} (h:ME Try.prog (MT Try.prog n) 3 m): ∃x:Int,m=(MV.i .i64) x∧(Lit.int .i64 x).wf=true:=by
 unfold ME at h
 rw [Try.underlying3] at h
 obtain ⟨x,e,w⟩:=rd3 h
 exact ⟨x,by simpa using e,w⟩
def wfSizeSize (x:ai):Prop:=((Lit.int .i64 x.F).wf=true)∧((Lit.int .i64 x.T).wf=true)
theorem rd23: ∀{n:Nat} {ms:List MV},MT Try.prog n 23 ms→ ∃x:ai,ms=[.i .i64 x.F,.i .i64 x.T]∧wfSizeSize x:=by
 intro n ms h
 cases n with
 |zero=>exact h.elim
 |succ d=>
  unfold MT at h
  rw [Try.underlying23] at h
  change FT (MT Try.prog d) [3,3] ms at h
  obtain ⟨_,_,rfl,h0,_,_,rfl,h1,rfl⟩:=h
  obtain ⟨x0,rfl,w0⟩:=rd3 h0
  obtain ⟨x1,rfl,w1⟩:=rd3 h1
  exact ⟨⟨x0,x1⟩,by simp,w0,w1⟩
theorem me23 {n:Nat} {m:MV} (h:ME Try.prog (MT Try.prog n) 23 m): ∃x:ai,m=bM x∧wfSizeSize x:=by
 unfold ME at h
 rw [Try.underlying23] at h
 obtain ⟨cs,rfl,h⟩:=h
 obtain ⟨x,rfl,w⟩:=rd23 h
 exact ⟨x,rfl,w⟩
theorem rd9: ∀{n:Nat} {ms:List MV},MT Try.prog n 9 ms→ ∃x:List UInt8,ms=[.s x]∧x.length≤Go.maxLen:=by
 intro n ms h
 cases n with
 |zero=>exact h.elim
 |succ d=>
  unfold MT at h
  rw [Try.underlying9] at h
  obtain ⟨x,rfl,h⟩:=h
  exact ⟨x,rfl,h⟩
theorem me9 {n:Nat} {m:MV} (h:ME Try.prog (MT Try.prog n) 9 m): ∃x:List UInt8,m=MV.s x∧x.length≤Go.maxLen:=by
 unfold ME at h
 rw [Try.underlying9] at h
 obtain ⟨x,e,w⟩:=rd9 h
 exact ⟨x,by simpa using e,w⟩
theorem rd4: ∀{n:Nat} {ms:List MV},MT Try.prog n 4 ms→ ∃x:Bool,ms=[.b x]∧True:=by
 intro n ms h
 cases n with
 |zero=>exact h.elim
 |succ d=>
  unfold MT at h
  rw [Try.underlying4] at h
  obtain ⟨x,rfl⟩:=h
  exact ⟨x,rfl,trivial⟩
theorem me4 {n:Nat} {m:MV} (h:ME Try.prog (MT Try.prog n) 4 m): ∃x:Bool,m=MV.b x∧True:=by
 unfold ME at h
 rw [Try.underlying4] at h
 obtain ⟨x,e,w⟩:=rd4 h
 exact ⟨x,by simpa using e,w⟩
def wfApiAccept (x:aa):Prop:=((Lit.int .i64 x.By).wf=true)∧((Lit.int .i64 x.View).wf=true)∧(x.Value.length≤Go.maxLen)
theorem rd72: ∀{n:Nat} {ms:List MV},MT Try.prog n 72 ms→ ∃x:aa,ms=[.i .i64 x.By,.i .i64 x.View,.s x.Value]∧wfApiAccept x:=by
 intro n ms h
 cases n with
 |zero=>exact h.elim
 |succ d=>
  unfold MT at h
  rw [Try.underlying72] at h
  change FT (MT Try.prog d) [3,3,9] ms at h
  obtain ⟨_,_,rfl,h0,_,_,rfl,h1,_,_,rfl,h2,rfl⟩:=h
  obtain ⟨x0,rfl,w0⟩:=rd3 h0
  obtain ⟨x1,rfl,w1⟩:=rd3 h1
  obtain ⟨x2,rfl,w2⟩:=rd9 h2
  exact ⟨⟨x0,x1,x2⟩,by simp,w0,w1,w2⟩
theorem me72 {n:Nat} {m:MV} (h:ME Try.prog (MT Try.prog n) 72 m): ∃x:aa,m=ah x∧wfApiAccept x:=by
 unfold ME at h
 rw [Try.underlying72] at h
 obtain ⟨cs,rfl,h⟩:=h
 obtain ⟨x,rfl,w⟩:=rd72 h
 exact ⟨x,rfl,w⟩
theorem rd24: ∀{n:Nat} {ms:List MV},MT Try.prog n 24 ms→ ∃x:List aa,ms=[.list (x.map ah)]∧x.length≤Go.maxLen∧ ∀y∈x,wfApiAccept y:=by
 intro n ms h
 cases n with
 |zero=>exact h.elim
 |succ d=>
  unfold MT at h
  rw [Try.underlying24] at h
  obtain ⟨xs,rfl,h1,h2⟩:=h
  obtain ⟨L,rfl,h3⟩:=DS (fun x (hx:ME Try.prog (MT Try.prog d) 72 x)=>me72 hx) h2
  exact ⟨L,rfl,by simpa using h1,h3⟩
theorem me24 {n:Nat} {m:MV} (h:ME Try.prog (MT Try.prog n) 24 m): ∃x:List aa,m=(Ld ah) x∧x.length≤Go.maxLen∧ ∀y∈x,wfApiAccept y:=by
 unfold ME at h
 rw [Try.underlying24] at h
 obtain ⟨x,e,w⟩:=rd24 h
 exact ⟨x,by simpa using e,w⟩
def wfApiReport (x:al):Prop:=((Lit.int .i64 x.By).wf=true)∧((Lit.int .i64 x.jW).wf=true)∧(True)∧((Lit.int .i64 x.View).wf=true)∧(x.Value.length≤Go.maxLen)∧(x.Proof.length≤Go.maxLen∧ ∀y∈x.Proof,wfApiAccept y)
theorem rd47: ∀{n:Nat} {ms:List MV},MT Try.prog n 47 ms→ ∃x:al,ms=[.i .i64 x.By,.i .i64 x.jW,.b x.Has,.i .i64 x.View,.s x.Value,.list (x.Proof.map ah)]∧wfApiReport x:=by
 intro n ms h
 cases n with
 |zero=>exact h.elim
 |succ d=>
  unfold MT at h
  rw [Try.underlying47] at h
  change FT (MT Try.prog d) [3,3,4,3,9,24] ms at h
  obtain ⟨_,_,rfl,h0,_,_,rfl,h1,_,_,rfl,h2,_,_,rfl,h3,_,_,rfl,h4,_,_,rfl,h5,rfl⟩:=h
  obtain ⟨x0,rfl,w0⟩:=rd3 h0
  obtain ⟨x1,rfl,w1⟩:=rd3 h1
  obtain ⟨x2,rfl,w2⟩:=rd4 h2
  obtain ⟨x3,rfl,w3⟩:=rd3 h3
  obtain ⟨x4,rfl,w4⟩:=rd9 h4
  obtain ⟨x5,rfl,w5⟩:=rd24 h5
  exact ⟨⟨x0,x1,x2,x3,x4,x5⟩,by simp,w0,w1,w2,w3,w4,w5⟩
theorem me47 {n:Nat} {m:MV} (h:ME Try.prog (MT Try.prog n) 47 m): ∃x:al,m=aJ x∧wfApiReport x:=by
 unfold ME at h
 rw [Try.underlying47] at h
 obtain ⟨cs,rfl,h⟩:=h
 obtain ⟨x,rfl,w⟩:=rd47 h
 exact ⟨x,rfl,w⟩
theorem rd89: ∀{n:Nat} {ms:List MV},MT Try.prog n 89 ms→ ∃x:List al,ms=[.list (x.map aJ)]∧x.length≤Go.maxLen∧ ∀y∈x,wfApiReport y:=by
 intro n ms h
 cases n with
 |zero=>exact h.elim
 |succ d=>
  unfold MT at h
  rw [Try.underlying89] at h
  obtain ⟨xs,rfl,h1,h2⟩:=h
  obtain ⟨L,rfl,h3⟩:=DS (fun x (hx:ME Try.prog (MT Try.prog d) 47 x)=>me47 hx) h2
  exact ⟨L,rfl,by simpa using h1,h3⟩
theorem me89 {n:Nat} {m:MV} (h:ME Try.prog (MT Try.prog n) 89 m): ∃x:List al,m=(Ld aJ) x∧x.length≤Go.maxLen∧ ∀y∈x,wfApiReport y:=by
 unfold ME at h
 rw [Try.underlying89] at h
 obtain ⟨x,e,w⟩:=rd89 h
 exact ⟨x,by simpa using e,w⟩
def wfL21Call (x:sd):Prop:=((Lit.int .i64 x.View).wf=true)∧(x.Value.length≤Go.maxLen)∧(x.tU.length≤Go.maxLen∧ ∀y∈x.tU,wfApiReport y)∧(wfApiAccept x.iy)
theorem rd91: ∀{n:Nat} {ms:List MV},MT Try.prog n 91 ms→ ∃x:sd,ms=[.i .i64 x.View,.s x.Value,.list (x.tU.map aJ),.i .i64 x.iy.By,.i .i64 x.iy.View,.s x.iy.Value]∧wfL21Call x:=by
 intro n ms h
 cases n with
 |zero=>exact h.elim
 |succ d=>
  unfold MT at h
  rw [Try.underlying91] at h
  change FT (MT Try.prog d) [3,9,89,72] ms at h
  obtain ⟨_,_,rfl,h0,_,_,rfl,h1,_,_,rfl,h2,_,_,rfl,h3,rfl⟩:=h
  obtain ⟨x0,rfl,w0⟩:=rd3 h0
  obtain ⟨x1,rfl,w1⟩:=rd9 h1
  obtain ⟨x2,rfl,w2⟩:=rd89 h2
  obtain ⟨x3,rfl,w3⟩:=rd72 h3
  exact ⟨⟨x0,x1,x2,x3⟩,by simp,w0,w1,w2,w3⟩
theorem me91 {n:Nat} {m:MV} (h:ME Try.prog (MT Try.prog n) 91 m): ∃x:sd,m=H9 x∧wfL21Call x:=by
 unfold ME at h
 rw [Try.underlying91] at h
 obtain ⟨cs,rfl,h⟩:=h
 obtain ⟨x,rfl,w⟩:=rd91 h
 exact ⟨x,rfl,w⟩
def wfL21Act (x:ll):Prop:=((Lit.int .i64 x.Kind).wf=true)∧(wfL21Call x.C)
theorem rd109: ∀{n:Nat} {ms:List MV},MT Try.prog n 109 ms→ ∃x:ll,ms=[.i .i64 x.Kind,.i .i64 x.C.View,.s x.C.Value,.list (x.C.tU.map aJ),.i .i64 x.C.iy.By,.i .i64 x.C.iy.View,.s x.C.iy.Value]∧wfL21Act x:=by
 intro n ms h
 cases n with
 |zero=>exact h.elim
 |succ d=>
  unfold MT at h
  rw [Try.underlying109] at h
  change FT (MT Try.prog d) [3,91] ms at h
  obtain ⟨_,_,rfl,h0,_,_,rfl,h1,rfl⟩:=h
  obtain ⟨x0,rfl,w0⟩:=rd3 h0
  obtain ⟨x1,rfl,w1⟩:=rd91 h1
  exact ⟨⟨x0,x1⟩,by simp,w0,w1⟩
theorem me109 {n:Nat} {m:MV} (h:ME Try.prog (MT Try.prog n) 109 m): ∃x:ll,m=lT x∧wfL21Act x:=by
 unfold ME at h
 rw [Try.underlying109] at h
 obtain ⟨cs,rfl,h⟩:=h
 obtain ⟨x,rfl,w⟩:=rd109 h
 exact ⟨x,rfl,w⟩
theorem rd107: ∀{n:Nat} {ms:List MV},MT Try.prog n 107 ms→ ∃x:List ll,ms=[.list (x.map lT)]∧x.length≤Go.maxLen∧ ∀y∈x,wfL21Act y:=by
 intro n ms h
 cases n with
 |zero=>exact h.elim
 |succ d=>
  unfold MT at h
  rw [Try.underlying107] at h
  obtain ⟨xs,rfl,h1,h2⟩:=h
  obtain ⟨L,rfl,h3⟩:=DS (fun x (hx:ME Try.prog (MT Try.prog d) 109 x)=>me109 hx) h2
  exact ⟨L,rfl,by simpa using h1,h3⟩
theorem me107 {n:Nat} {m:MV} (h:ME Try.prog (MT Try.prog n) 107 m): ∃x:List ll,m=(Ld lT) x∧x.length≤Go.maxLen∧ ∀y∈x,wfL21Act y:=by
 unfold ME at h
 rw [Try.underlying107] at h
 obtain ⟨x,e,w⟩:=rd107 h
 exact ⟨x,by simpa using e,w⟩
theorem own:ownKnob Try.prog.godebug=none:=by kernel_rfl
theorem laidOut:laidOutB Try.prog=true:=by kernel_rfl
theorem sound_law: ∀ms,uS Try.prog Try.f10.params.toList ms→jD Try.prog cx 10 ms (.b true):=by
 intro ms h
 rw [show Try.f10.params= #[23,3,107] from Try.params10] at h
 obtain ⟨m0,_,rfl,⟨_,h0⟩,m1,_,rfl,⟨_,h1⟩,m2,_,rfl,⟨_,h2⟩,h⟩:=h
 have h:_=[]:=h
 subst h
 obtain ⟨x0,rfl,w0⟩:=me23 h0
 obtain ⟨x1,rfl,w1⟩:=me3 h1
 obtain ⟨x2,rfl,w2⟩:=me107 h2
 refine rr.all 10 _ _ ?_
 have he:=wQ x0 x1 x2
 rw [xb x0 x1 x2] at he
 exact he
theorem law_lifted (os:Os) (started:os.Started) (H:Type) (enc:TypeId×Value→H):
 ReturnsInHanded {} Try.checked os 10 .any (Rows.acceptorOnceSpec.pre6 enc Try.prog Try.f10 Rows.acceptorOnceRow.domain false) (Rows.acceptorOnceSpec.post enc Try.prog Try.f10 false true false false):=by
 refine returnsInHanded_of_change (C:=Try.checked) own started (by kernel_rfl) Try.func10
  (ChangeSpec.witness6 (enc:=enc) (C:=Try.checked) false ⟨#[], #[.agg #[.int .i64 0,.int .i64 0],.int .i64 0,.slice none 0 0],[]⟩ 10 (by kernel_rfl) (by kernel_rfl) (by kernel_rfl) (by kernel_rfl)) ?_
 intro W base args ds gs before hval0 hW hcnd _
 refine KV (c:=cx) (tb:=4) Try.func10 (by kernel_rfl) (by kernel_rfl) laidOut ?_ (by kernel_rfl) Try.underlying4 rfl ?_ hval0 hW (by kernel_rfl) sound_law
 ·intro t ht
  rw [show Try.f10.params= #[23,3,107] from Try.params10] at ht
  rcases List.mem_cons.1 ht with rfl|ht
  ·exact ⟨⟨30,by kernel_rfl⟩,by kernel_rfl,of_decide_eq_true (by kernel_rfl)⟩
  rcases List.mem_cons.1 ht with rfl|ht
  ·exact ⟨⟨30,by kernel_rfl⟩,by kernel_rfl,of_decide_eq_true (by kernel_rfl)⟩
  rcases List.mem_cons.1 ht with rfl|ht
  ·exact ⟨⟨30,by kernel_rfl⟩,by kernel_rfl,of_decide_eq_true (by kernel_rfl)⟩
  cases ht
 ·intro ds hd
  rw [show Try.f10.params= #[23,3,107] from Try.params10] at hd
  match ds,hd with
  |[_,_,_],_=>rfl
theorem law_holds:Rows.AcceptorOnceSaid:=
 OpenClaim.holds_of_wide 10 Try.f10 rfl rfl rfl rfl rfl rfl rfl ⟨rfl,rfl,rfl,rfl,rfl⟩ rfl rfl rfl rfl rfl (by kernel_rfl) Try.func10 (by kernel_rfl)
  (of_decide_eq_true (by kernel_rfl)) (by unfold Func.isWrapper;first|(rw [if_pos (by decide+kernel)];kernel_rfl)|(rw [if_neg (by decide+kernel)];exact ⟨rfl,rfl⟩))
  (fun os started H enc _=>law_lifted os started H enc)
end Go.Proofs.Ytjblhgpbkfmkoaa
