import Derived.Test.YtjblhgpbkfmkoaaDnYE
import Derived.Test.YtjblhgpbkfmkoaaDnC
import Derived.Test.YtjblhgpbkfmkoaaRows
import Derived.ProofKit
import Derived.Test.YtjblhgpbkfmkoaaDnPAcc6
/-
  The law AcceptorLoads holds. Conditions: none.
-/
set_option linter.unusedVariables false
set_option linter.unusedSimpArgs false
set_option maxRecDepth 100000
namespace Go.Proofs.Ytjblhgpbkfmkoaa
open Go Go.ChangeShapes Go.WideShapes Go.ChangeAt Go.RowKit Dn Dn.S
theorem rd3: ∀{n:Nat} {ms:List MV},MT Try.prog n 3 ms→ ∃x:Int,ms=[.i .i64 x]∧(Lit.int .i64 x).wf=true:=by
 intro n ms h
 cases n with
 |zero=>exact h.elim
 |succ d=>
  unfold MT at h
  rw [Try.underlying3] at h
  obtain ⟨x,rfl,h⟩:=h
  exact ⟨x,rfl,h⟩
theorem me3 {n:Nat} {m:MV} (h:ME Try.prog (MT Try.prog n) 3 m): ∃x:Int,m=(MV.i .i64) x∧(Lit.int .i64 x).wf=true:=by
 unfold ME at h
 rw [Try.underlying3] at h
 obtain ⟨x,e,w⟩:=rd3 h
 exact ⟨x,by simpa using e,w⟩
def wfSizeSize (x:aj):Prop:=((Lit.int .i64 x.F).wf=true)∧((Lit.int .i64 x.T).wf=true)
theorem rd23: ∀{n:Nat} {ms:List MV},MT Try.prog n 23 ms→ ∃x:aj,ms=[.i .i64 x.F,.i .i64 x.T]∧wfSizeSize x:=by
 intro n ms h
 cases n with
 |zero=>exact h.elim
 |succ d=>
  unfold MT at h
  rw [Try.underlying23] at h
  change FT (MT Try.prog d) [3,3] ms at h
  obtain ⟨_,_,rfl,h0,_,_,rfl,h1,rfl⟩:=h
  obtain ⟨x0,rfl,w0⟩:=rd3 h0
  obtain ⟨x1,rfl,w1⟩:=rd3 h1
  exact ⟨⟨x0,x1⟩,by simp,w0,w1⟩
theorem me23 {n:Nat} {m:MV} (h:ME Try.prog (MT Try.prog n) 23 m): ∃x:aj,m=bT x∧wfSizeSize x:=by
 unfold ME at h
 rw [Try.underlying23] at h
 obtain ⟨cs,rfl,h⟩:=h
 obtain ⟨x,rfl,w⟩:=rd23 h
 exact ⟨x,rfl,w⟩
theorem rd4: ∀{n:Nat} {ms:List MV},MT Try.prog n 4 ms→ ∃x:Bool,ms=[.b x]∧True:=by
 intro n ms h
 cases n with
 |zero=>exact h.elim
 |succ d=>
  unfold MT at h
  rw [Try.underlying4] at h
  obtain ⟨x,rfl⟩:=h
  exact ⟨x,rfl,trivial⟩
theorem me4 {n:Nat} {m:MV} (h:ME Try.prog (MT Try.prog n) 4 m): ∃x:Bool,m=MV.b x∧True:=by
 unfold ME at h
 rw [Try.underlying4] at h
 obtain ⟨x,e,w⟩:=rd4 h
 exact ⟨x,by simpa using e,w⟩
theorem rd9: ∀{n:Nat} {ms:List MV},MT Try.prog n 9 ms→ ∃x:List UInt8,ms=[.s x]∧x.length≤Go.maxLen:=by
 intro n ms h
 cases n with
 |zero=>exact h.elim
 |succ d=>
  unfold MT at h
  rw [Try.underlying9] at h
  obtain ⟨x,rfl,h⟩:=h
  exact ⟨x,rfl,h⟩
theorem me9 {n:Nat} {m:MV} (h:ME Try.prog (MT Try.prog n) 9 m): ∃x:List UInt8,m=MV.s x∧x.length≤Go.maxLen:=by
 unfold ME at h
 rw [Try.underlying9] at h
 obtain ⟨x,e,w⟩:=rd9 h
 exact ⟨x,by simpa using e,w⟩
def wfApiAccept (x:ab):Prop:=((Lit.int .i64 x.By).wf=true)∧((Lit.int .i64 x.View).wf=true)∧(x.Value.length≤Go.maxLen)
theorem rd72: ∀{n:Nat} {ms:List MV},MT Try.prog n 72 ms→ ∃x:ab,ms=[.i .i64 x.By,.i .i64 x.View,.s x.Value]∧wfApiAccept x:=by
 intro n ms h
 cases n with
 |zero=>exact h.elim
 |succ d=>
  unfold MT at h
  rw [Try.underlying72] at h
  change FT (MT Try.prog d) [3,3,9] ms at h
  obtain ⟨_,_,rfl,h0,_,_,rfl,h1,_,_,rfl,h2,rfl⟩:=h
  obtain ⟨x0,rfl,w0⟩:=rd3 h0
  obtain ⟨x1,rfl,w1⟩:=rd3 h1
  obtain ⟨x2,rfl,w2⟩:=rd9 h2
  exact ⟨⟨x0,x1,x2⟩,by simp,w0,w1,w2⟩
theorem me72 {n:Nat} {m:MV} (h:ME Try.prog (MT Try.prog n) 72 m): ∃x:ab,m=ai x∧wfApiAccept x:=by
 unfold ME at h
 rw [Try.underlying72] at h
 obtain ⟨cs,rfl,h⟩:=h
 obtain ⟨x,rfl,w⟩:=rd72 h
 exact ⟨x,rfl,w⟩
theorem rd24: ∀{n:Nat} {ms:List MV},MT Try.prog n 24 ms→ ∃x:List ab,ms=[.list (x.map ai)]∧x.length≤Go.maxLen∧ ∀y∈x,wfApiAccept y:=by
 intro n ms h
 cases n with
 |zero=>exact h.elim
 |succ d=>
  unfold MT at h
  rw [Try.underlying24] at h
  obtain ⟨xs,rfl,h1,h2⟩:=h
  obtain ⟨L,rfl,h3⟩:=Gy (fun x (hx:ME Try.prog (MT Try.prog d) 72 x)=>me72 hx) h2
  exact ⟨L,rfl,by simpa using h1,h3⟩
theorem me24 {n:Nat} {m:MV} (h:ME Try.prog (MT Try.prog n) 24 m): ∃x:List ab,m=(H5 ai) x∧x.length≤Go.maxLen∧ ∀y∈x,wfApiAccept y:=by
 unfold ME at h
 rw [Try.underlying24] at h
 obtain ⟨x,e,w⟩:=rd24 h
 exact ⟨x,by simpa using e,w⟩
def wfTallyTally (x:aD):Prop:=(x.L.length≤Go.maxLen∧ ∀y∈x.L,wfApiAccept y)
theorem rd26: ∀{n:Nat} {ms:List MV},MT Try.prog n 26 ms→ ∃x:aD,ms=[.list (x.L.map ai)]∧wfTallyTally x:=by
 intro n ms h
 cases n with
 |zero=>exact h.elim
 |succ d=>
  unfold MT at h
  rw [Try.underlying26] at h
  change FT (MT Try.prog d) [24] ms at h
  obtain ⟨_,_,rfl,h0,rfl⟩:=h
  obtain ⟨x0,rfl,w0⟩:=rd24 h0
  exact ⟨⟨x0⟩,by simp,w0⟩
theorem me26 {n:Nat} {m:MV} (h:ME Try.prog (MT Try.prog n) 26 m): ∃x:aD,m=jt x∧wfTallyTally x:=by
 unfold ME at h
 rw [Try.underlying26] at h
 obtain ⟨cs,rfl,h⟩:=h
 obtain ⟨x,rfl,w⟩:=rd26 h
 exact ⟨x,rfl,w⟩
def wfAcceptorAcceptor (x:af):Prop:=(wfSizeSize x.S)∧((Lit.int .i64 x.Me).wf=true)∧((Lit.int .i64 x.View).wf=true)∧(True)∧((Lit.int .i64 x.At).wf=true)∧(x.Value.length≤Go.maxLen)∧(x.Proof.length≤Go.maxLen∧ ∀y∈x.Proof,wfApiAccept y)∧(wfTallyTally x.bS)
theorem rd28: ∀{n:Nat} {ms:List MV},MT Try.prog n 28 ms→ ∃x:af,ms=[.i .i64 x.S.F,.i .i64 x.S.T,.i .i64 x.Me,.i .i64 x.View,.b x.Has,.i .i64 x.At,.s x.Value,.list (x.Proof.map ai),.list (x.bS.L.map ai)]∧wfAcceptorAcceptor x:=by
 intro n ms h
 cases n with
 |zero=>exact h.elim
 |succ d=>
  unfold MT at h
  rw [Try.underlying28] at h
  change FT (MT Try.prog d) [23,3,3,4,3,9,24,26] ms at h
  obtain ⟨_,_,rfl,h0,_,_,rfl,h1,_,_,rfl,h2,_,_,rfl,h3,_,_,rfl,h4,_,_,rfl,h5,_,_,rfl,h6,_,_,rfl,h7,rfl⟩:=h
  obtain ⟨x0,rfl,w0⟩:=rd23 h0
  obtain ⟨x1,rfl,w1⟩:=rd3 h1
  obtain ⟨x2,rfl,w2⟩:=rd3 h2
  obtain ⟨x3,rfl,w3⟩:=rd4 h3
  obtain ⟨x4,rfl,w4⟩:=rd3 h4
  obtain ⟨x5,rfl,w5⟩:=rd9 h5
  obtain ⟨x6,rfl,w6⟩:=rd24 h6
  obtain ⟨x7,rfl,w7⟩:=rd26 h7
  exact ⟨⟨x0,x1,x2,x3,x4,x5,x6,x7⟩,by simp,w0,w1,w2,w3,w4,w5,w6,w7⟩
theorem me28 {n:Nat} {m:MV} (h:ME Try.prog (MT Try.prog n) 28 m): ∃x:af,m=aZ x∧wfAcceptorAcceptor x:=by
 unfold ME at h
 rw [Try.underlying28] at h
 obtain ⟨cs,rfl,h⟩:=h
 obtain ⟨x,rfl,w⟩:=rd28 h
 exact ⟨x,rfl,w⟩
theorem rd5: ∀{n:Nat} {ms:List MV},MT Try.prog n 5 ms→ ∃x:Int,ms=[.i .u8 x]∧(Lit.int .u8 x).wf=true:=by
 intro n ms h
 cases n with
 |zero=>exact h.elim
 |succ d=>
  unfold MT at h
  rw [Try.underlying5] at h
  obtain ⟨x,rfl,h⟩:=h
  exact ⟨x,rfl,h⟩
theorem me5 {n:Nat} {m:MV} (h:ME Try.prog (MT Try.prog n) 5 m): ∃x:Int,m=(MV.i .u8) x∧(Lit.int .u8 x).wf=true:=by
 unfold ME at h
 rw [Try.underlying5] at h
 obtain ⟨x,e,w⟩:=rd5 h
 exact ⟨x,by simpa using e,w⟩
theorem rd65: ∀{n:Nat} {ms:List MV},MT Try.prog n 65 ms→ ∃x:List Int,ms=[.list (x.map (MV.i .u8))]∧x.length≤Go.maxLen∧ ∀y∈x,(Lit.int .u8 y).wf=true:=by
 intro n ms h
 cases n with
 |zero=>exact h.elim
 |succ d=>
  unfold MT at h
  rw [Try.underlying65] at h
  obtain ⟨xs,rfl,h1,h2⟩:=h
  obtain ⟨L,rfl,h3⟩:=Gy (fun x (hx:ME Try.prog (MT Try.prog d) 5 x)=>me5 hx) h2
  exact ⟨L,rfl,by simpa using h1,h3⟩
theorem me65 {n:Nat} {m:MV} (h:ME Try.prog (MT Try.prog n) 65 m): ∃x:List Int,m=(H5 (MV.i .u8)) x∧x.length≤Go.maxLen∧ ∀y∈x,(Lit.int .u8 y).wf=true:=by
 unfold ME at h
 rw [Try.underlying65] at h
 obtain ⟨x,e,w⟩:=rd65 h
 exact ⟨x,by simpa using e,w⟩
theorem own:ownKnob Try.prog.godebug=none:=by kernel_rfl
theorem laidOut:laidOutB Try.prog=true:=by kernel_rfl
theorem sound_law: ∀ms,sQ Try.prog Try.f5.params.toList ms→kN Try.prog cx 5 ms (.b true):=by
 intro ms h
 rw [show Try.f5.params= #[28,65] from Try.params5] at h
 obtain ⟨m0,_,rfl,⟨_,h0⟩,m1,_,rfl,⟨_,h1⟩,h⟩:=h
 have h:_=[]:=h
 subst h
 obtain ⟨x0,rfl,w0⟩:=me28 h0
 obtain ⟨x1,rfl,w1⟩:=me65 h1
 refine o8.all 5 _ _ ?_
 have he:=tz x0 x1
 rw [uI x0 x1 w1.2] at he
 exact he
theorem law_lifted (os:Os) (started:os.Started) (H:Type) (enc:TypeId×Value→H):
 ReturnsInHanded {} Try.checked os 5 .any (Rows.acceptorLoadsSpec.pre6 enc Try.prog Try.f5 Rows.acceptorLoadsRow.domain false) (Rows.acceptorLoadsSpec.post enc Try.prog Try.f5 false true false false):=by
 refine returnsInHanded_of_change (C:=Try.checked) own started (by kernel_rfl) Try.func5
  (ChangeSpec.witness6 (enc:=enc) (C:=Try.checked) false ⟨#[], #[.agg #[.int .i64 0,.int .i64 0,.int .i64 0,.int .i64 0,.bool false,.int .i64 0,.string ⟨#[]⟩,.slice none 0 0,.slice none 0 0],.slice none 0 0],[]⟩ 5 (by kernel_rfl) (by kernel_rfl) (by kernel_rfl) (by kernel_rfl)) ?_
 intro W base args ds gs before hval0 hW hcnd _
 refine HO (c:=cx) (tb:=4) Try.func5 (by kernel_rfl) (by kernel_rfl) laidOut ?_ (by kernel_rfl) Try.underlying4 rfl ?_ hval0 hW (by kernel_rfl) sound_law
 ·intro t ht
  rw [show Try.f5.params= #[28,65] from Try.params5] at ht
  rcases List.mem_cons.1 ht with rfl|ht
  ·exact ⟨⟨30,by kernel_rfl⟩,by kernel_rfl,of_decide_eq_true (by kernel_rfl)⟩
  rcases List.mem_cons.1 ht with rfl|ht
  ·exact ⟨⟨30,by kernel_rfl⟩,by kernel_rfl,of_decide_eq_true (by kernel_rfl)⟩
  cases ht
 ·intro ds hd
  rw [show Try.f5.params= #[28,65] from Try.params5] at hd
  match ds,hd with
  |[_,_],_=>rfl
theorem law_holds:Rows.AcceptorLoadsSaid:=
 OpenClaim.holds_of_wide 5 Try.f5 rfl rfl rfl rfl rfl rfl rfl ⟨rfl,rfl,rfl,rfl,rfl⟩ rfl rfl rfl rfl rfl (by kernel_rfl) Try.func5 (by kernel_rfl)
  (of_decide_eq_true (by kernel_rfl)) (by unfold Func.isWrapper;first|(rw [if_pos (by decide+kernel)];kernel_rfl)|(rw [if_neg (by decide+kernel)];exact ⟨rfl,rfl⟩))
  (fun os started H enc _=>law_lifted os started H enc)
end Go.Proofs.Ytjblhgpbkfmkoaa
