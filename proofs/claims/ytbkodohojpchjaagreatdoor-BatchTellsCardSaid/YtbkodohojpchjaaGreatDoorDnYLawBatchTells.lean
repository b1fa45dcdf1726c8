import Derived.Test.YtbkodohojpchjaaGreatDoorDnYE
import Derived.Test.YtbkodohojpchjaaGreatDoorDnC
import Derived.Test.YtbkodohojpchjaaGreatDoorRows
import Derived.ProofKit
import Derived.Test.YtbkodohojpchjaaGreatDoorDnPBatch8
import Derived.Test.YtbkodohojpchjaaGreatDoorDnD
import Derived.Test.YtbkodohojpchjaaGreatDoorTie
import Derived.Test.YtbkodohojpchjaaGreatDoorCards
import Derived.SevenTiedAt
/-
  The law BatchTells holds. Conditions: none.
-/
set_option linter.unusedVariables false
set_option linter.unusedSimpArgs false
set_option maxRecDepth 100000
namespace Go.Proofs.YtbkodohojpchjaaGreatDoor
open Go Go.ChangeShapes Go.WideShapes Go.ChangeAt Go.RowKit Dn Dn.S
theorem rd3: ∀{n:Nat} {ms:List MV},MT Tryz.prog n 3 ms-> ∃x:Int,ms=[.i .i64 x]/\(Lit.int .i64 x).wf=true:=by
 intro n ms h;cases n with
 |zero=>exact h.elim
 |succ d=>unfold MT at h;rw [Tryz.underlying3] at h;obtain ⟨x,rfl,h⟩:=h;exact ⟨x,rfl,h⟩
theorem me3 {n:Nat}{m:MV}(h:ME Tryz.prog (MT Tryz.prog n) 3 m): ∃x:Int,m=(MV.i .i64) x/\(Lit.int .i64 x).wf=true:=by unfold ME at h;rw [Tryz.underlying3] at h;obtain ⟨x,e,w⟩:=rd3 h;exact ⟨x,by simpa using e,w⟩
theorem rd9: ∀{n:Nat} {ms:List MV},MT Tryz.prog n 9 ms-> ∃x:List UInt8,ms=[.s x]/\x.length<=Go.maxLen:=by
 intro n ms h;cases n with
 |zero=>exact h.elim
 |succ d=>unfold MT at h;rw [Tryz.underlying9] at h;obtain ⟨x,rfl,h⟩:=h;exact ⟨x,rfl,h⟩
theorem me9 {n:Nat}{m:MV}(h:ME Tryz.prog (MT Tryz.prog n) 9 m): ∃x:List UInt8,m=MV.s x/\x.length<=Go.maxLen:=by unfold ME at h;rw [Tryz.underlying9] at h;obtain ⟨x,e,w⟩:=rd9 h;exact ⟨x,by simpa using e,w⟩
def wfOrderOrder (x:ab):Prop:=((Lit.int .i64 x.Client).wf=true)/\((Lit.int .i64 x.Seq).wf=true)/\((Lit.int .i64 x.Kind).wf=true)/\(x.Path.length<=Go.maxLen)/\(x.Value.length<=Go.maxLen)/\((Lit.int .i64 x.Version).wf=true)/\((Lit.int .i64 x.Session).wf=true)/\((Lit.int .i64 x.Span).wf=true)
theorem rd35: ∀{n:Nat} {ms:List MV},MT Tryz.prog n 35 ms-> ∃x:ab,ms=[.i .i64 x.Client,.i .i64 x.Seq,.i .i64 x.Kind,.s x.Path,.s x.Value,.i .i64 x.Version,.i .i64 x.Session,.i .i64 x.Span]/\wfOrderOrder x:=by
 intro n ms h;cases n with
 |zero=>exact h.elim
 |succ d=>unfold MT at h;rw [Tryz.underlying35] at h;change FT (MT Tryz.prog d) [3,3,3,9,9,3,3,3] ms at h;obtain ⟨_,_,rfl,h0,_,_,rfl,h1,_,_,rfl,h2,_,_,rfl,h3,_,_,rfl,h4,_,_,rfl,h5,_,_,rfl,h6,_,_,rfl,h7,rfl⟩:=h;obtain ⟨x0,rfl,w0⟩:=rd3 h0;obtain ⟨x1,rfl,w1⟩:=rd3 h1;obtain ⟨x2,rfl,w2⟩:=rd3 h2;obtain ⟨x3,rfl,w3⟩:=rd9 h3;obtain ⟨x4,rfl,w4⟩:=rd9 h4;obtain ⟨x5,rfl,w5⟩:=rd3 h5;obtain ⟨x6,rfl,w6⟩:=rd3 h6;obtain ⟨x7,rfl,w7⟩:=rd3 h7;exact ⟨⟨x0,x1,x2,x3,x4,x5,x6,x7⟩,by simp,w0,w1,w2,w3,w4,w5,w6,w7⟩
theorem me35 {n:Nat}{m:MV}(h:ME Tryz.prog (MT Tryz.prog n) 35 m): ∃x:ab,m=aR x/\wfOrderOrder x:=by unfold ME at h;rw [Tryz.underlying35] at h;obtain ⟨cs,rfl,h⟩:=h;obtain ⟨x,rfl,w⟩:=rd35 h;exact ⟨x,rfl,w⟩
theorem rd38: ∀{n:Nat} {ms:List MV},MT Tryz.prog n 38 ms-> ∃x:List ab,ms=[.list (x.map aR)]/\x.length<=Go.maxLen/\ ∀y∈x,wfOrderOrder y:=by
 intro n ms h;cases n with
 |zero=>exact h.elim
 |succ d=>unfold MT at h;rw [Tryz.underlying38] at h;obtain ⟨xs,rfl,h1,h2⟩:=h;obtain ⟨L,rfl,h3⟩:=Uz (λx (hx:ME Tryz.prog (MT Tryz.prog d) 35 x)=>me35 hx) h2;exact ⟨L,rfl,by simpa using h1,h3⟩
theorem me38 {n:Nat}{m:MV}(h:ME Tryz.prog (MT Tryz.prog n) 38 m): ∃x:List ab,m=(Ld aR) x/\x.length<=Go.maxLen/\ ∀y∈x,wfOrderOrder y:=by unfold ME at h;rw [Tryz.underlying38] at h;obtain ⟨x,e,w⟩:=rd38 h;exact ⟨x,by simpa using e,w⟩
theorem own:ownKnob Tryz.prog.godebug=none:=by kernel_rfl
theorem laidOut:laidOutB Tryz.prog=true:=by kernel_rfl
theorem sound_law: ∀ms,wg Tryz.prog Tryz.f11.params.toList ms->cq Tryz.prog cx 11 ms (.b true):=by intro ms h;rw [show Tryz.f11.params= #[38,9] from Tryz.params11] at h;obtain ⟨m0,_,rfl,⟨_,h0⟩,m1,_,rfl,⟨_,h1⟩,h⟩:=h;have h:_=[]:=h;subst h;obtain ⟨x0,rfl,w0⟩:=me38 h0;obtain ⟨x1,rfl,w1⟩:=me9 h1;refine vB.all 11 _ _ ?_;have he:=C5 x0 x1;rw [En x0 x1 w0.2] at he;exact he
theorem law_lifted (os:Os)(started:os.Started)(H:Type)(enc:TypeId×Value->H): ReturnsInHanded {} Tryz.checked os 11 .any (λw args=>(Rows.batchTellsSpec.pre enc Tryz.prog Tryz.f11 Rows.batchTellsRow.domain false w args/\laidMet Tryz.prog Rows.batchTellsRow.laid w)/\sizedMet enc Tryz.prog Tryz.f11 (OpenSpec.ofChange Rows.batchTellsSpec) false w args) (Rows.batchTellsSpec.post enc Tryz.prog Tryz.f11 false true false false):=by
 refine returnsInHanded_of_change_and (C:=Tryz.checked) (X:=λw _=>laidMet Tryz.prog Rows.batchTellsRow.laid w) (λ_ _ _ hh h=>h.of_heap hh) own started (by kernel_rfl) Tryz.func11 (ChangeSpec.witness_shaped (enc:=enc) (C:=Tryz.checked) (os:=os) (X:=λw _=>laidMet Tryz.prog Rows.batchTellsRow.laid w) false (adA Tryz.prog Rows.batchTellsRow.laid os #[.slice none 0 0,.string ⟨#[]⟩]) #[.slice none 0 0,.string ⟨#[]⟩] 8 rfl (World.shaped_of_RefB (by kernel_rfl) (by kernel_rfl)) (by kernel_rfl) (by kernel_rfl) (by kernel_rfl) (laidMet_of_run3 8 (by kernel_rfl) (by kernel_rfl) (by kernel_rfl))) ?_;intro W base args ds gs before hval0 hW hcnd _ _ _;refine NS (c:=cx) (tb:=4) Tryz.func11 (by kernel_rfl) (by kernel_rfl) laidOut ?_ (by kernel_rfl) Tryz.underlying4 rfl ?_ hval0 hW (by kernel_rfl) sound_law
 ·intro t ht;rw [show Tryz.f11.params= #[38,9] from Tryz.params11] at ht;rcases List.mem_cons.1 ht with rfl|ht
  ·exact ⟨⟨30,by kernel_rfl⟩,by kernel_rfl,of_decide_eq_true (by kernel_rfl)⟩
  rcases List.mem_cons.1 ht with rfl|ht
  ·exact ⟨⟨30,by kernel_rfl⟩,by kernel_rfl,of_decide_eq_true (by kernel_rfl)⟩
  cases ht
 ·intro ds hd;rw [show Tryz.f11.params= #[38,9] from Tryz.params11] at hd;match ds,hd with
  |[_,_],_=>rfl
def headNs:List Nat:=[104,97,114,110,101,115,115,32,49,51,51,53,52,50,48,100,55,100,56,57,49,97,52,52,98,98,97,54,99,51,56,100,101,49,48,56,98,102,57,55,49,56,52,49,57,98,98,102,48,98,99,48,49,51,99,51,99,98,102,100,55,99,100,97,50,57,53,54,98,99,49,52,32,99,117,116,32,97,116,32,99,111,110,115,105,115,116,111,114,121,47,99,111,110,115,105,115,116,111,114,121,108,97,119,49,51,46,82,101,97,108,109,65,112,112,108,105,101,115,32,99,111,110,115,105,115,116,111,114,121,47,99,111,110,115,105,115,116,111,114,121,108,97,119,49,51,46,82,101,97,108,109,69,118,101,110,116,115,32,99,111,110,115,105,115,116,111,114,121,47,99,111,110,115,105,115,116,111,114,121,108,97,119,49,51,46,82,101,97,108,109,70,111,108,100,115,32,99,111,110,115,105,115,116,111,114,121,47,99,111,110,115,105,115,116,111,114,121,108,97,119,49,51,46,82,101,97,108,109,79,110,99,101,32,99,111,110,115,105,115,116,111,114,121,47,99,111,110,115,105,115,116,111,114,121,108,97,119,49,51,46,82,101,97,108,109,82,101,97,100,115,32,99,111,110,115,105,115,116,111,114,121,47,99,111,110,115,105,115,116,111,114,121,108,97,119,49,51,46,82,101,97,108,109,79,119,110,101,114,115,32,99,111,110,115,105,115,116,111,114,121,47,99,111,110,115,105,115,116,111,114,121,108,97,119,49,52,46,66,97,116,99,104,66,97,99,107,32,99,111,110,115,105,115,116,111,114,121,47,99,111,110,115,105,115,116,111,114,121,108,97,119,49,52,46,66,97,116,99,104,79,110,99,101,32,99,111,110,115,105,115,116,111,114,121,47,99,111,110,115,105,115,116,111,114,121,108,97,119,49,52,46,66,97,116,99,104,84,101,108,108,115,32,99,111,110,115,105,115,116,111,114,121,47,99,111,110,115,105,115,116,111,114,121,108,97,119,49,52,46,66,97,116,99,104,87,97,105,116,115]
def headWs:List (List Nat):=[[97,116],[99,111,110,115,105,115,116,111,114,121,47,99,111,110,115,105,115,116,111,114,121,108,97,119,49,51,46,82,101,97,108,109,65,112,112,108,105,101,115],[99,111,110,115,105,115,116,111,114,121,47,99,111,110,115,105,115,116,111,114,121,108,97,119,49,51,46,82,101,97,108,109,69,118,101,110,116,115],[99,111,110,115,105,115,116,111,114,121,47,99,111,110,115,105,115,116,111,114,121,108,97,119,49,51,46,82,101,97,108,109,70,111,108,100,115],[99,111,110,115,105,115,116,111,114,121,47,99,111,110,115,105,115,116,111,114,121,108,97,119,49,51,46,82,101,97,108,109,79,110,99,101],[99,111,110,115,105,115,116,111,114,121,47,99,111,110,115,105,115,116,111,114,121,108,97,119,49,51,46,82,101,97,108,109,82,101,97,100,115],[99,111,110,115,105,115,116,111,114,121,47,99,111,110,115,105,115,116,111,114,121,108,97,119,49,51,46,82,101,97,108,109,79,119,110,101,114,115],[99,111,110,115,105,115,116,111,114,121,47,99,111,110,115,105,115,116,111,114,121,108,97,119,49,52,46,66,97,116,99,104,66,97,99,107],[99,111,110,115,105,115,116,111,114,121,47,99,111,110,115,105,115,116,111,114,121,108,97,119,49,52,46,66,97,116,99,104,79,110,99,101],[99,111,110,115,105,115,116,111,114,121,47,99,111,110,115,105,115,116,111,114,121,108,97,119,49,52,46,66,97,116,99,104,84,101,108,108,115],[99,111,110,115,105,115,116,111,114,121,47,99,111,110,115,105,115,116,111,114,121,108,97,119,49,52,46,66,97,116,99,104,87,97,105,116,115]]
theorem head_ok:Tryz.prog.initOrder=String.ofList (headNs.map Char.ofNat):=by kernel_rfl
theorem words_ok:behindMainWord (wordsSigns (headNs.map Char.ofNat))=uC::headWs.map (·.map Char.ofNat):=by kernel_rfl
theorem head_words:behindMainWord (wordsSigns Tryz.prog.initOrder.toList)=uC::headWs.map (·.map Char.ofNat):=by rw [FV head_ok,words_ok]
theorem strip1:(stripLifts liftWords (uC::headWs.map (·.map Char.ofNat))).1=[]:=by kernel_rfl
theorem strip2:((stripLifts liftWords (uC::headWs.map (·.map Char.ofNat))).2.head? ==some "cut".toList)=true:=by kernel_rfl
theorem may_ok:Tryz.prog.mayEnter=true:=SW head_words strip1 strip2 (by kernel_rfl) (by kernel_rfl) (by kernel_rfl)
theorem lifts_ok:(Rows.batchTellsRow.lifted==Tryz.prog.liftsFinal)=true:=Tg (Tf head_words strip1) (by kernel_rfl)
theorem make_ok:(Tryz.prog.make==some Rows.batchTellsRow.make)=true:=Wf (We head_words) (by kernel_rfl)
theorem closed_ok:joinedFacts Tryz.prog 11 Tryz.f11 Rows.batchTellsSpec Rows.batchTellsRow=true:=by
 unfold joinedFacts;repeat' (with_reducible apply JQ)
 all_goals first|(with_reducible exact may_ok)|(with_reducible exact lifts_ok)|(with_reducible exact make_ok)|kernel_rfl
theorem row_holds:Rows.BatchTellsSaid:=OpenClaim.holds_of_wide 11 Tryz.f11 rfl rfl rfl rfl rfl rfl rfl ⟨rfl,rfl,rfl,rfl,rfl⟩ rfl rfl rfl rfl rfl (by kernel_rfl) Tryz.func11 closed_ok (of_decide_eq_true (by kernel_rfl)) (by unfold Func.isWrapper;first|(rw [if_pos (by decide+kernel)];kernel_rfl)|(rw [if_neg (by decide+kernel)];exact ⟨rfl,rfl⟩)) (λos started H enc _=>law_lifted os started H enc)
theorem main_words:wordsSigns (headNs.map Char.ofNat)=[104,97,114,110,101,115,115].map Char.ofNat::[49,51,51,53,52,50,48,100,55,100,56,57,49,97,52,52,98,98,97,54,99,51,56,100,101,49,48,56,98,102,57,55,49,56,52,49,57,98,98,102,48,98,99,48,49,51,99,51,99,98,102,100,55,99,100,97,50,57,53,54,98,99,49,52].map Char.ofNat::uC::headWs.map (·.map Char.ofNat):=by kernel_rfl
theorem main_ok:Tryz.prog.mainIs=some (true, "1335420d7d891a44bba6c38de108bf9718419bbf0bc013c3cbfd7cda2956bc14".toList):=by
 rw [Wd (P:=Tryz.prog) ((congrArg wordsSigns (FV head_ok)).trans main_words) (by kernel_rfl) (by kernel_rfl)]
 have h:[49,51,51,53,52,50,48,100,55,100,56,57,49,97,52,52,98,98,97,54,99,51,56,100,101,49,48,56,98,102,57,55,49,56,52,49,57,98,98,102,48,98,99,48,49,51,99,51,99,98,102,100,55,99,100,97,50,57,53,54,98,99,49,52].map Char.ofNat= "1335420d7d891a44bba6c38de108bf9718419bbf0bc013c3cbfd7cda2956bc14".toList:=by kernel_rfl
 rw [h]
theorem law_holds:Rows.BatchTellsCardSaid:=
 Claim7.holds_tied_plain_at .later [] [.data,.pinned] true (true, "1335420d7d891a44bba6c38de108bf9718419bbf0bc013c3cbfd7cda2956bc14") false
  row_holds (λ_ h=>by cases h) (by kernel_rfl) (λ_ h=>by cases h) batchTells_row_tie rfl ⟨rfl,rfl⟩ main_ok rfl
  (λf fn hf Z5=>by
   obtain rfl:f=11:=Option.some.inj ((show Tryz.prog.funcNamed Rows.batchTellsRow.func=some 11 by kernel_rfl).symm.trans hf)|>.symm;obtain rfl:fn=Tryz.f11:=(Option.some.inj (Tryz.func11.symm.trans Z5)).symm;exact ⟨by kernel_rfl,λj t ht=>by
    rw [Tryz.params11] at ht;have hm:t∈[38,9]:=by simpa using Array.mem_of_getElem? ht
    have rL:([38,9].all λu=>!Tryz.prog.wantsStandIn u)=true:=by kernel_rfl
    exact (show Tryz.prog.wantsStandIn t=false by simpa using List.all_eq_true.1 rL t hm)⟩)
  (by kernel_rfl)
end Go.Proofs.YtbkodohojpchjaaGreatDoor
