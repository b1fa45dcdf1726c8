import Derived.Test.YtmdlghpieagfhaaGreatDnYE
import Derived.Test.YtmdlghpieagfhaaGreatDnC
import Derived.Test.YtmdlghpieagfhaaGreatRows
import Derived.ProofKit
import Derived.Test.YtmdlghpieagfhaaGreatDnPSlot9
/-
  The law SlotFast holds. Conditions: none.
-/
set_option linter.unusedVariables false
set_option linter.unusedSimpArgs false
set_option maxRecDepth 100000
namespace Go.Proofs.YtmdlghpieagfhaaGreat
open Go Go.ChangeShapes Go.WideShapes Go.ChangeAt Go.RowKit Dn Dn.S
theorem rd3: ∀{n:Nat} {ms:List MV},MT Tryz.prog n 3 ms→ ∃x:Int,ms=[.i .i64 x]∧(Lit.int .i64 x).wf=true:=by
 intro n ms h
 cases n with
 |zero=>exact h.elim
 |succ d=>
  unfold MT at h
  rw [Tryz.underlying3] at h
  obtain ⟨x,rfl,h⟩:=h
  exact ⟨x,rfl,h⟩
theorem me3 {n:Nat} {m:MV} (h:ME Tryz.prog (MT Tryz.prog n) 3 m): ∃x:Int,m=(MV.i .i64) x∧(Lit.int .i64 x).wf=true:=by
 unfold ME at h
 rw [Tryz.underlying3] at h
 obtain ⟨x,e,w⟩:=rd3 h
 exact ⟨x,by simpa using e,w⟩
def wfSizeSize (x:af):Prop:=((Lit.int .i64 x.F).wf=true)∧((Lit.int .i64 x.T).wf=true)
theorem rd23: ∀{n:Nat} {ms:List MV},MT Tryz.prog n 23 ms→ ∃x:af,ms=[.i .i64 x.F,.i .i64 x.T]∧wfSizeSize x:=by
 intro n ms h
 cases n with
 |zero=>exact h.elim
 |succ d=>
  unfold MT at h
  rw [Tryz.underlying23] at h
  change FT (MT Tryz.prog d) [3,3] ms at h
  obtain ⟨_,_,rfl,h0,_,_,rfl,h1,rfl⟩:=h
  obtain ⟨x0,rfl,w0⟩:=rd3 h0
  obtain ⟨x1,rfl,w1⟩:=rd3 h1
  exact ⟨⟨x0,x1⟩,by simp,w0,w1⟩
theorem me23 {n:Nat} {m:MV} (h:ME Tryz.prog (MT Tryz.prog n) 23 m): ∃x:af,m=bu x∧wfSizeSize x:=by
 unfold ME at h
 rw [Tryz.underlying23] at h
 obtain ⟨cs,rfl,h⟩:=h
 obtain ⟨x,rfl,w⟩:=rd23 h
 exact ⟨x,rfl,w⟩
theorem rd4: ∀{n:Nat} {ms:List MV},MT Tryz.prog n 4 ms→ ∃x:Bool,ms=[.b x]∧True:=by
 intro n ms h
 cases n with
 |zero=>exact h.elim
 |succ d=>
  unfold MT at h
  rw [Tryz.underlying4] at h
  obtain ⟨x,rfl⟩:=h
  exact ⟨x,rfl,trivial⟩
theorem me4 {n:Nat} {m:MV} (h:ME Tryz.prog (MT Tryz.prog n) 4 m): ∃x:Bool,m=MV.b x∧True:=by
 unfold ME at h
 rw [Tryz.underlying4] at h
 obtain ⟨x,e,w⟩:=rd4 h
 exact ⟨x,by simpa using e,w⟩
theorem rd24: ∀{n:Nat} {ms:List MV},MT Tryz.prog n 24 ms→ ∃x:List Bool,ms=[.list (x.map MV.b)]∧x.length≤Go.maxLen∧ ∀y∈x,True:=by
 intro n ms h
 cases n with
 |zero=>exact h.elim
 |succ d=>
  unfold MT at h
  rw [Tryz.underlying24] at h
  obtain ⟨xs,rfl,h1,h2⟩:=h
  obtain ⟨L,rfl,h3⟩:=Nr (fun x (hx:ME Tryz.prog (MT Tryz.prog d) 4 x)=>me4 hx) h2
  exact ⟨L,rfl,by simpa using h1,h3⟩
theorem me24 {n:Nat} {m:MV} (h:ME Tryz.prog (MT Tryz.prog n) 24 m): ∃x:List Bool,m=(R8 MV.b) x∧x.length≤Go.maxLen∧ ∀y∈x,True:=by
 unfold ME at h
 rw [Tryz.underlying24] at h
 obtain ⟨x,e,w⟩:=rd24 h
 exact ⟨x,by simpa using e,w⟩
theorem rd9: ∀{n:Nat} {ms:List MV},MT Tryz.prog n 9 ms→ ∃x:List UInt8,ms=[.s x]∧x.length≤Go.maxLen:=by
 intro n ms h
 cases n with
 |zero=>exact h.elim
 |succ d=>
  unfold MT at h
  rw [Tryz.underlying9] at h
  obtain ⟨x,rfl,h⟩:=h
  exact ⟨x,rfl,h⟩
theorem me9 {n:Nat} {m:MV} (h:ME Tryz.prog (MT Tryz.prog n) 9 m): ∃x:List UInt8,m=MV.s x∧x.length≤Go.maxLen:=by
 unfold ME at h
 rw [Tryz.underlying9] at h
 obtain ⟨x,e,w⟩:=rd9 h
 exact ⟨x,by simpa using e,w⟩
theorem rd25: ∀{n:Nat} {ms:List MV},MT Tryz.prog n 25 ms→ ∃x:List (List UInt8),ms=[.list (x.map MV.s)]∧x.length≤Go.maxLen∧ ∀y∈x,y.length≤Go.maxLen:=by
 intro n ms h
 cases n with
 |zero=>exact h.elim
 |succ d=>
  unfold MT at h
  rw [Tryz.underlying25] at h
  obtain ⟨xs,rfl,h1,h2⟩:=h
  obtain ⟨L,rfl,h3⟩:=Nr (fun x (hx:ME Tryz.prog (MT Tryz.prog d) 9 x)=>me9 hx) h2
  exact ⟨L,rfl,by simpa using h1,h3⟩
theorem me25 {n:Nat} {m:MV} (h:ME Tryz.prog (MT Tryz.prog n) 25 m): ∃x:List (List UInt8),m=(R8 MV.s) x∧x.length≤Go.maxLen∧ ∀y∈x,y.length≤Go.maxLen:=by
 unfold ME at h
 rw [Tryz.underlying25] at h
 obtain ⟨x,e,w⟩:=rd25 h
 exact ⟨x,by simpa using e,w⟩
def wfL23Cast (x:gz):Prop:=(wfSizeSize x.S)∧(x.cV.length≤Go.maxLen∧ ∀y∈x.cV,True)∧(x.Want.length≤Go.maxLen∧ ∀y∈x.Want,y.length≤Go.maxLen)
theorem rd27: ∀{n:Nat} {ms:List MV},MT Tryz.prog n 27 ms→ ∃x:gz,ms=[.i .i64 x.S.F,.i .i64 x.S.T,.list (x.cV.map MV.b),.list (x.Want.map MV.s)]∧wfL23Cast x:=by
 intro n ms h
 cases n with
 |zero=>exact h.elim
 |succ d=>
  unfold MT at h
  rw [Tryz.underlying27] at h
  change FT (MT Tryz.prog d) [23,24,25] ms at h
  obtain ⟨_,_,rfl,h0,_,_,rfl,h1,_,_,rfl,h2,rfl⟩:=h
  obtain ⟨x0,rfl,w0⟩:=rd23 h0
  obtain ⟨x1,rfl,w1⟩:=rd24 h1
  obtain ⟨x2,rfl,w2⟩:=rd25 h2
  exact ⟨⟨x0,x1,x2⟩,by simp,w0,w1,w2⟩
theorem me27 {n:Nat} {m:MV} (h:ME Tryz.prog (MT Tryz.prog n) 27 m): ∃x:gz,m=yH x∧wfL23Cast x:=by
 unfold ME at h
 rw [Tryz.underlying27] at h
 obtain ⟨cs,rfl,h⟩:=h
 obtain ⟨x,rfl,w⟩:=rd27 h
 exact ⟨x,rfl,w⟩
theorem own:ownKnob Tryz.prog.godebug=none:=by kernel_rfl
theorem laidOut:laidOutB Tryz.prog=true:=by kernel_rfl
theorem sound_law: ∀ms,zL Tryz.prog Tryz.f4.params.toList ms→kn Tryz.prog cx 4 ms (.b true):=by
 intro ms h
 rw [show Tryz.f4.params= #[27,3,4] from Tryz.params4] at h
 obtain ⟨m0,_,rfl,⟨_,h0⟩,m1,_,rfl,⟨_,h1⟩,m2,_,rfl,⟨_,h2⟩,h⟩:=h
 have h:_=[]:=h
 subst h
 obtain ⟨x0,rfl,w0⟩:=me27 h0
 obtain ⟨x1,rfl,w1⟩:=me3 h1
 obtain ⟨x2,rfl,w2⟩:=me4 h2
 refine Bw.all 4 _ _ ?_
 have he:=ID x0 x1 x2
 rw [IJ x0 x1 x2] at he
 exact he
theorem law_lifted (os:Os) (started:os.Started) (H:Type) (enc:TypeId×Value→H):
 ReturnsInHanded {} Tryz.checked os 4 .any (Rows.slotFastSpec.pre6 enc Tryz.prog Tryz.f4 Rows.slotFastRow.domain false) (Rows.slotFastSpec.post enc Tryz.prog Tryz.f4 false true false false):=by
 refine returnsInHanded_of_change (C:=Tryz.checked) own started (by kernel_rfl) Tryz.func4
  (ChangeSpec.witness6 (enc:=enc) (C:=Tryz.checked) false ⟨#[], #[.agg #[.int .i64 0,.int .i64 0,.slice none 0 0,.slice none 0 0],.int .i64 0,.bool false],[]⟩ 4 (by kernel_rfl) (by kernel_rfl) (by kernel_rfl) (by kernel_rfl)) ?_
 intro W base args ds gs before hval0 hW hcnd _
 refine OR (c:=cx) (tb:=4) Tryz.func4 (by kernel_rfl) (by kernel_rfl) laidOut ?_ (by kernel_rfl) Tryz.underlying4 rfl ?_ hval0 hW (by kernel_rfl) sound_law
 ·intro t ht
  rw [show Tryz.f4.params= #[27,3,4] from Tryz.params4] at ht
  rcases List.mem_cons.1 ht with rfl|ht
  ·exact ⟨⟨30,by kernel_rfl⟩,by kernel_rfl,of_decide_eq_true (by kernel_rfl)⟩
  rcases List.mem_cons.1 ht with rfl|ht
  ·exact ⟨⟨30,by kernel_rfl⟩,by kernel_rfl,of_decide_eq_true (by kernel_rfl)⟩
  rcases List.mem_cons.1 ht with rfl|ht
  ·exact ⟨⟨30,by kernel_rfl⟩,by kernel_rfl,of_decide_eq_true (by kernel_rfl)⟩
  cases ht
 ·intro ds hd
  rw [show Tryz.f4.params= #[27,3,4] from Tryz.params4] at hd
  match ds,hd with
  |[_,_,_],_=>rfl
theorem law_holds:Rows.SlotFastSaid:=
 OpenClaim.holds_of_wide 4 Tryz.f4 rfl rfl rfl rfl rfl rfl rfl ⟨rfl,rfl,rfl,rfl,rfl⟩ rfl rfl rfl rfl rfl (by kernel_rfl) Tryz.func4 (by kernel_rfl)
  (of_decide_eq_true (by kernel_rfl)) (by unfold Func.isWrapper;first|(rw [if_pos (by decide+kernel)];kernel_rfl)|(rw [if_neg (by decide+kernel)];exact ⟨rfl,rfl⟩))
  (fun os started H enc _=>law_lifted os started H enc)
end Go.Proofs.YtmdlghpieagfhaaGreat
