import Derived.Test.YtoppfdchohkgaaaGreatDoorDnF
import Derived.Test.YtoppfdchohkgaaaGreatDoorRows
import Derived.ProofKit
import Derived.Test.YtoppfdchohkgaaaGreatDoorTie
import Derived.Test.YtoppfdchohkgaaaGreatDoorCards
import Derived.SevenTiedAt
/-
  The law ReplicaFolds holds. Conditions: none.
-/
set_option linter.unusedVariables false
set_option linter.unusedSimpArgs false
set_option maxRecDepth 100000
namespace Go.Proofs.YtoppfdchohkgaaaGreatDoor
open Go Go.ChangeShapes Go.WideShapes Go.ChangeAt Go.RowKit Dn Dn.S
theorem rd3: ∀{n:Nat} {ms:List MV},MT Tryz.prog n 3 ms-> ∃x:Int,ms=[.i .i64 x]/\(Lit.int .i64 x).wf=true:=by
 intro n ms h;cases n with
 |zero=>exact h.elim
 |succ d=>unfold MT at h;rw [Tryz.underlying3] at h;obtain ⟨x,rfl,h⟩:=h;exact ⟨x,rfl,h⟩
theorem me3 {n:Nat}{m:MV}(h:ME Tryz.prog (MT Tryz.prog n) 3 m): ∃x:Int,m=(MV.i .i64) x/\(Lit.int .i64 x).wf=true:=by unfold ME at h;rw [Tryz.underlying3] at h;obtain ⟨x,e,w⟩:=rd3 h;exact ⟨x,by simpa using e,w⟩
theorem rd9: ∀{n:Nat} {ms:List MV},MT Tryz.prog n 9 ms-> ∃x:List UInt8,ms=[.s x]/\x.length<=Go.maxLen:=by
 intro n ms h;cases n with
 |zero=>exact h.elim
 |succ d=>unfold MT at h;rw [Tryz.underlying9] at h;obtain ⟨x,rfl,h⟩:=h;exact ⟨x,rfl,h⟩
theorem me9 {n:Nat}{m:MV}(h:ME Tryz.prog (MT Tryz.prog n) 9 m): ∃x:List UInt8,m=MV.s x/\x.length<=Go.maxLen:=by unfold ME at h;rw [Tryz.underlying9] at h;obtain ⟨x,e,w⟩:=rd9 h;exact ⟨x,by simpa using e,w⟩
def wfOrderOrder (x:ab):Prop:=((Lit.int .i64 x.Client).wf=true)/\((Lit.int .i64 x.Seq).wf=true)/\((Lit.int .i64 x.Kind).wf=true)/\(x.Path.length<=Go.maxLen)/\(x.Value.length<=Go.maxLen)/\((Lit.int .i64 x.Version).wf=true)/\((Lit.int .i64 x.Session).wf=true)/\((Lit.int .i64 x.Span).wf=true)
theorem rd27: ∀{n:Nat} {ms:List MV},MT Tryz.prog n 27 ms-> ∃x:ab,ms=[.i .i64 x.Client,.i .i64 x.Seq,.i .i64 x.Kind,.s x.Path,.s x.Value,.i .i64 x.Version,.i .i64 x.Session,.i .i64 x.Span]/\wfOrderOrder x:=by
 intro n ms h;cases n with
 |zero=>exact h.elim
 |succ d=>unfold MT at h;rw [Tryz.underlying27] at h;change FT (MT Tryz.prog d) [3,3,3,9,9,3,3,3] ms at h;obtain ⟨_,_,rfl,h0,_,_,rfl,h1,_,_,rfl,h2,_,_,rfl,h3,_,_,rfl,h4,_,_,rfl,h5,_,_,rfl,h6,_,_,rfl,h7,rfl⟩:=h;obtain ⟨x0,rfl,w0⟩:=rd3 h0;obtain ⟨x1,rfl,w1⟩:=rd3 h1;obtain ⟨x2,rfl,w2⟩:=rd3 h2;obtain ⟨x3,rfl,w3⟩:=rd9 h3;obtain ⟨x4,rfl,w4⟩:=rd9 h4;obtain ⟨x5,rfl,w5⟩:=rd3 h5;obtain ⟨x6,rfl,w6⟩:=rd3 h6;obtain ⟨x7,rfl,w7⟩:=rd3 h7;exact ⟨⟨x0,x1,x2,x3,x4,x5,x6,x7⟩,by simp,w0,w1,w2,w3,w4,w5,w6,w7⟩
theorem me27 {n:Nat}{m:MV}(h:ME Tryz.prog (MT Tryz.prog n) 27 m): ∃x:ab,m=aI x/\wfOrderOrder x:=by unfold ME at h;rw [Tryz.underlying27] at h;obtain ⟨cs,rfl,h⟩:=h;obtain ⟨x,rfl,w⟩:=rd27 h;exact ⟨x,rfl,w⟩
theorem rd25: ∀{n:Nat} {ms:List MV},MT Tryz.prog n 25 ms-> ∃x:List ab,ms=[.list (x.map aI)]/\x.length<=Go.maxLen/\ ∀y∈x,wfOrderOrder y:=by
 intro n ms h;cases n with
 |zero=>exact h.elim
 |succ d=>unfold MT at h;rw [Tryz.underlying25] at h;obtain ⟨xs,rfl,h1,h2⟩:=h;obtain ⟨L,rfl,h3⟩:=VZ (λx (hx:ME Tryz.prog (MT Tryz.prog d) 27 x)=>me27 hx) h2;exact ⟨L,rfl,by simpa using h1,h3⟩
theorem me25 {n:Nat}{m:MV}(h:ME Tryz.prog (MT Tryz.prog n) 25 m): ∃x:List ab,m=(FD aI) x/\x.length<=Go.maxLen/\ ∀y∈x,wfOrderOrder y:=by unfold ME at h;rw [Tryz.underlying25] at h;obtain ⟨x,e,w⟩:=rd25 h;exact ⟨x,by simpa using e,w⟩
theorem rd22: ∀{n:Nat} {ms:List MV},MT Tryz.prog n 22 ms-> ∃x:List (List ab),ms=[.list (x.map (FD aI))]/\x.length<=Go.maxLen/\ ∀y∈x,y.length<=Go.maxLen/\ ∀z∈y,wfOrderOrder z:=by
 intro n ms h;cases n with
 |zero=>exact h.elim
 |succ d=>unfold MT at h;rw [Tryz.underlying22] at h;obtain ⟨xs,rfl,h1,h2⟩:=h;obtain ⟨L,rfl,h3⟩:=VZ (λx (hx:ME Tryz.prog (MT Tryz.prog d) 25 x)=>me25 hx) h2;exact ⟨L,rfl,by simpa using h1,h3⟩
theorem me22 {n:Nat}{m:MV}(h:ME Tryz.prog (MT Tryz.prog n) 22 m): ∃x:List (List ab),m=(FD (FD aI)) x/\x.length<=Go.maxLen/\ ∀y∈x,y.length<=Go.maxLen/\ ∀z∈y,wfOrderOrder z:=by unfold ME at h;rw [Tryz.underlying22] at h;obtain ⟨x,e,w⟩:=rd22 h;exact ⟨x,by simpa using e,w⟩
theorem own:ownKnob Tryz.prog.godebug=none:=by kernel_rfl
theorem laidOut:laidOutB Tryz.prog=true:=by kernel_rfl
theorem sound_law: ∀ms,Ee Tryz.prog Tryz.f3.params.toList ms->dJ Tryz.prog cx 3 ms (.b true):=by intro ms h;rw [show Tryz.f3.params= #[22,9,3] from Tryz.params3] at h;obtain ⟨m0,_,rfl,⟨_,h0⟩,m1,_,rfl,⟨_,h1⟩,m2,_,rfl,⟨_,h2⟩,h⟩:=h;have h:_=[]:=h;subst h;obtain ⟨x0,rfl,w0⟩:=me22 h0;obtain ⟨x1,rfl,w1⟩:=me9 h1;obtain ⟨x2,rfl,w2⟩:=me3 h2;refine AL.all 3 _ _ ?_;have he:=Gu x0 x1 x2;rw [H8 x0 x1 x2 w0.2] at he;exact he
theorem law_lifted (os:Os)(started:os.Started)(H:Type)(enc:TypeId×Value->H): ReturnsInHanded {} Tryz.checked os 3 .any (λw args=>(Rows.replicaFoldsSpec.pre enc Tryz.prog Tryz.f3 Rows.replicaFoldsRow.domain false w args/\laidMet Tryz.prog Rows.replicaFoldsRow.laid w)/\sizedMet enc Tryz.prog Tryz.f3 (OpenSpec.ofChange Rows.replicaFoldsSpec) false w args) (Rows.replicaFoldsSpec.post enc Tryz.prog Tryz.f3 false true false false):=by
 refine returnsInHanded_of_change_and (C:=Tryz.checked) (X:=λw _=>laidMet Tryz.prog Rows.replicaFoldsRow.laid w) (λ_ _ _ hh h=>h.of_heap hh) own started (by kernel_rfl) Tryz.func3 (ChangeSpec.witness_shaped (enc:=enc) (C:=Tryz.checked) (os:=os) (X:=λw _=>laidMet Tryz.prog Rows.replicaFoldsRow.laid w) false (anS Tryz.prog Rows.replicaFoldsRow.laid os #[.slice none 0 0,.string ⟨#[]⟩,.int .i64 0]) #[.slice none 0 0,.string ⟨#[]⟩,.int .i64 0] 8 rfl (World.shaped_of_RefB (by kernel_rfl) (by kernel_rfl)) (by kernel_rfl) (by kernel_rfl) (by kernel_rfl) (laidMet_of_run3 8 (by kernel_rfl) (by kernel_rfl) (by kernel_rfl))) ?_;intro W base args ds gs before hval0 hW hcnd _ _ _;refine XV (c:=cx) (tb:=4) Tryz.func3 (by kernel_rfl) (by kernel_rfl) laidOut ?_ (by kernel_rfl) Tryz.underlying4 rfl ?_ hval0 hW (by kernel_rfl) sound_law
 ·intro t ht;rw [show Tryz.f3.params= #[22,9,3] from Tryz.params3] at ht;rcases List.mem_cons.1 ht with rfl|ht
  ·exact ⟨⟨30,by kernel_rfl⟩,by kernel_rfl,of_decide_eq_true (by kernel_rfl)⟩
  rcases List.mem_cons.1 ht with rfl|ht
  ·exact ⟨⟨30,by kernel_rfl⟩,by kernel_rfl,of_decide_eq_true (by kernel_rfl)⟩
  rcases List.mem_cons.1 ht with rfl|ht
  ·exact ⟨⟨30,by kernel_rfl⟩,by kernel_rfl,of_decide_eq_true (by kernel_rfl)⟩
  cases ht
 ·intro ds hd;rw [show Tryz.f3.params= #[22,9,3] from Tryz.params3] at hd;match ds,hd with
  |[_,_,_],_=>rfl
def headNs:List Nat:=[104,97,114,110,101,115,115,32,51,50,52,49,98,56,52,55,49,100,53,98,99,48,49,54,54,55,57,56,52,52,51,55,50,53,101,51,99,54,51,54,99,53,49,100,54,99,53,48,55,49,56,101,99,54,101,57,57,100,98,97,99,49,53,100,53,52,51,55,97,53,97,97,32,99,117,116,32,97,116,32,99,111,110,115,105,115,116,111,114,121,47,99,111,110,115,105,115,116,111,114,121,108,97,119,50,56,46,82,101,112,108,105,99,97,70,111,108,100,115]
def headWs:List (List Nat):=[[97,116],[99,111,110,115,105,115,116,111,114,121,47,99,111,110,115,105,115,116,111,114,121,108,97,119,50,56,46,82,101,112,108,105,99,97,70,111,108,100,115]]
theorem head_ok:Tryz.prog.initOrder=String.ofList (headNs.map Char.ofNat):=by kernel_rfl
theorem words_ok:behindMainWord (wordsSigns (headNs.map Char.ofNat))=BS::headWs.map (·.map Char.ofNat):=by kernel_rfl
theorem head_words:behindMainWord (wordsSigns Tryz.prog.initOrder.toList)=BS::headWs.map (·.map Char.ofNat):=by rw [NQ head_ok,words_ok]
theorem strip1:(stripLifts liftWords (BS::headWs.map (·.map Char.ofNat))).1=[]:=by kernel_rfl
theorem strip2:((stripLifts liftWords (BS::headWs.map (·.map Char.ofNat))).2.head? ==some "cut".toList)=true:=by kernel_rfl
theorem may_ok:Tryz.prog.mayEnter=true:=aka head_words strip1 strip2 (by kernel_rfl) (by kernel_rfl) (by kernel_rfl)
theorem lifts_ok:(Rows.replicaFoldsRow.lifted==Tryz.prog.liftsFinal)=true:=aca (ab9 head_words strip1) (by kernel_rfl)
theorem make_ok:(Tryz.prog.make==some Rows.replicaFoldsRow.make)=true:=afF (afE head_words) (by kernel_rfl)
theorem c1:laidOutB Tryz.prog=true:=by kernel_rfl
theorem c2:mapsRowed Tryz.prog=true:=by kernel_rfl
theorem c3:namedTie Tryz.prog Rows.replicaFoldsRow.named Rows.replicaFoldsSpec.vars=true:=by kernel_rfl
theorem c4:(Tryz.prog.stops==[])=true:=by kernel_rfl
theorem c5:(Tryz.prog.stopKnobs==[])=true:=by kernel_rfl
theorem c6:(Rows.replicaFoldsRow.inPlace==Tryz.prog.inPlace 3)=true:=by kernel_rfl
theorem c7:(Rows.replicaFoldsRow.unfollowed==Tryz.prog.unfollowed 3)=true:=by kernel_rfl
theorem c8:(Rows.replicaFoldsRow.recurses==Tryz.prog.recurses 3)=true:=by kernel_rfl
theorem c9:(Rows.replicaFoldsRow.named==Tryz.prog.varsNamed 3)=true:=by kernel_rfl
theorem c10:(Rows.replicaFoldsRow.plainKeys==Tryz.prog.plainKeys)=true:=by kernel_rfl
theorem c11:Tryz.prog.stopsHeard=true:=by kernel_rfl
theorem closed_ok:joinedFacts Tryz.prog 3 Tryz.f3 Rows.replicaFoldsSpec Rows.replicaFoldsRow=true:=by
 unfold joinedFacts;repeat' (with_reducible apply RL)
 all_goals first|(with_reducible exact may_ok)|(with_reducible exact lifts_ok)|(with_reducible exact make_ok)|(with_reducible exact c1)|(with_reducible exact c2)|(with_reducible exact c3)|(with_reducible exact c4)|(with_reducible exact c5)|(with_reducible exact c6)|(with_reducible exact c7)|(with_reducible exact c8)|(with_reducible exact c9)|(with_reducible exact c10)|(with_reducible exact c11)|kernel_rfl
theorem row_holds:Rows.ReplicaFoldsSaid:=OpenClaim.holds_of_wide 3 Tryz.f3 rfl rfl rfl rfl rfl rfl rfl ⟨rfl,rfl,rfl,rfl,rfl⟩ rfl rfl rfl rfl rfl (by kernel_rfl) Tryz.func3 closed_ok (of_decide_eq_true (by kernel_rfl)) (by unfold Func.isWrapper;first|(rw [if_pos (by decide+kernel)];kernel_rfl)|(rw [if_neg (by decide+kernel)];exact ⟨rfl,rfl⟩)) (λos started H enc _=>law_lifted os started H enc)
theorem main_words:wordsSigns (headNs.map Char.ofNat)=[104,97,114,110,101,115,115].map Char.ofNat::[51,50,52,49,98,56,52,55,49,100,53,98,99,48,49,54,54,55,57,56,52,52,51,55,50,53,101,51,99,54,51,54,99,53,49,100,54,99,53,48,55,49,56,101,99,54,101,57,57,100,98,97,99,49,53,100,53,52,51,55,97,53,97,97].map Char.ofNat::BS::headWs.map (·.map Char.ofNat):=by kernel_rfl
theorem main_ok:Tryz.prog.mainIs=some (true, "3241b8471d5bc0166798443725e3c636c51d6c50718ec6e99dbac15d5437a5aa".toList):=by
 rw [afD (P:=Tryz.prog) ((congrArg wordsSigns (NQ head_ok)).trans main_words) (by kernel_rfl) (by kernel_rfl)]
 have h:[51,50,52,49,98,56,52,55,49,100,53,98,99,48,49,54,54,55,57,56,52,52,51,55,50,53,101,51,99,54,51,54,99,53,49,100,54,99,53,48,55,49,56,101,99,54,101,57,57,100,98,97,99,49,53,100,53,52,51,55,97,53,97,97].map Char.ofNat= "3241b8471d5bc0166798443725e3c636c51d6c50718ec6e99dbac15d5437a5aa".toList:=by kernel_rfl
 rw [h]
theorem looks_ok:false=Tryz.prog.looks []:=by kernel_rfl
theorem goes_ok:false=Rows.replicaFoldsRow.goesBy Tryz.prog:=by kernel_rfl
theorem named_ok:Tryz.prog.funcNamed Rows.replicaFoldsRow.func=some 3:=by kernel_rfl
theorem law_holds:Rows.ReplicaFoldsCardSaid:=
 Claim7.holds_tied_plain_at .later [] [.data,.pinned] true (true, "3241b8471d5bc0166798443725e3c636c51d6c50718ec6e99dbac15d5437a5aa") false
  row_holds (λ_ h=>by cases h) (by kernel_rfl) (λ_ h=>by cases h) replicaFolds_row_tie rfl ⟨rfl,rfl⟩ main_ok rfl
  (λf fn hf hfn=>by
   obtain rfl:f=3:=Option.some.inj (named_ok.symm.trans hf)|>.symm;obtain rfl:fn=Tryz.f3:=(Option.some.inj (Tryz.func3.symm.trans hfn)).symm;exact ⟨looks_ok,λj t ht=>by
    rw [Tryz.params3] at ht;have hm:t∈[22,9,3]:=by simpa using Array.mem_of_getElem? ht
    have rV:([22,9,3].all λu=>!Tryz.prog.wantsStandIn u)=true:=by kernel_rfl
    exact (show Tryz.prog.wantsStandIn t=false by simpa using List.all_eq_true.1 rV t hm)⟩)
  goes_ok
end Go.Proofs.YtoppfdchohkgaaaGreatDoor
