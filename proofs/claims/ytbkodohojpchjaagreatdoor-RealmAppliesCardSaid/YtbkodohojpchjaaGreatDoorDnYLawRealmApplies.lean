import Derived.Test.YtbkodohojpchjaaGreatDoorDnYE
import Derived.Test.YtbkodohojpchjaaGreatDoorDnB
import Derived.Test.YtbkodohojpchjaaGreatDoorRows
import Derived.ProofKit
import Derived.Test.YtbkodohojpchjaaGreatDoorDnPRealm12
import Derived.Test.YtbkodohojpchjaaGreatDoorDnD
import Derived.Test.YtbkodohojpchjaaGreatDoorTie
import Derived.Test.YtbkodohojpchjaaGreatDoorCards
import Derived.SevenTiedAt
/-
  The law RealmApplies holds. Conditions: none.
-/
set_option linter.unusedVariables false
set_option linter.unusedSimpArgs false
set_option maxRecDepth 100000
namespace Go.Proofs.YtbkodohojpchjaaGreatDoor
open Go Go.ChangeShapes Go.WideShapes Go.ChangeAt Go.RowKit Dn Dn.S
theorem rd9: ∀{n:Nat}{ms:List MV},MT Tryz.prog n 9 ms-> ∃x:List UInt8,ms=[.s x]/\x.length<=Go.maxLen:=by
 intro n ms h;cases n with
 |zero=>exact h.elim
 |succ d=>unfold MT at h;rw [Tryz.underlying9] at h;obtain ⟨x,rfl,h⟩:=h;exact ⟨x,rfl,h⟩
theorem me9 {n:Nat}{m:MV}(h:ME Tryz.prog (MT Tryz.prog n) 9 m): ∃x:List UInt8,m=MV.s x/\x.length<=Go.maxLen:=by unfold ME at h;rw [Tryz.underlying9] at h;obtain ⟨x,e,w⟩:=rd9 h;exact ⟨x,by simpa using e,w⟩
theorem rd3: ∀{n:Nat}{ms:List MV},MT Tryz.prog n 3 ms-> ∃x:Int,ms=[.i .i64 x]/\(Lit.int .i64 x).wf=true:=by
 intro n ms h;cases n with
 |zero=>exact h.elim
 |succ d=>unfold MT at h;rw [Tryz.underlying3] at h;obtain ⟨x,rfl,h⟩:=h;exact ⟨x,rfl,h⟩
theorem me3 {n:Nat}{m:MV}(h:ME Tryz.prog (MT Tryz.prog n) 3 m): ∃x:Int,m=(MV.i .i64) x/\(Lit.int .i64 x).wf=true:=by unfold ME at h;rw [Tryz.underlying3] at h;obtain ⟨x,e,w⟩:=rd3 h;exact ⟨x,by simpa using e,w⟩
def wfShelfNode (x:af):Prop:=(x.Path.length<=Go.maxLen)/\(x.Value.length<=Go.maxLen)/\((Lit.int .i64 x.Version).wf=true)/\((Lit.int .i64 x.bF).wf=true)
theorem rd98: ∀{n:Nat}{ms:List MV},MT Tryz.prog n 98 ms-> ∃x:af,ms=[.s x.Path,.s x.Value,.i .i64 x.Version,.i .i64 x.bF]/\wfShelfNode x:=by
 intro n ms h;cases n with
 |zero=>exact h.elim
 |succ d=>unfold MT at h;rw [Tryz.underlying98] at h;change FT (MT Tryz.prog d) [9,9,3,3] ms at h;obtain ⟨_,_,rfl,h0,_,_,rfl,h1,_,_,rfl,h2,_,_,rfl,h3,rfl⟩:=h;obtain ⟨x0,rfl,w0⟩:=rd9 h0;obtain ⟨x1,rfl,w1⟩:=rd9 h1;obtain ⟨x2,rfl,w2⟩:=rd3 h2;obtain ⟨x3,rfl,w3⟩:=rd3 h3;exact ⟨⟨x0,x1,x2,x3⟩,by simp,w0,w1,w2,w3⟩
theorem me98 {n:Nat}{m:MV}(h:ME Tryz.prog (MT Tryz.prog n) 98 m): ∃x:af,m=aW x/\wfShelfNode x:=by unfold ME at h;rw [Tryz.underlying98] at h;obtain ⟨cs,rfl,h⟩:=h;obtain ⟨x,rfl,w⟩:=rd98 h;exact ⟨x,rfl,w⟩
theorem rd22: ∀{n:Nat}{ms:List MV},MT Tryz.prog n 22 ms-> ∃x:List af,ms=[.list (x.map aW)]/\x.length<=Go.maxLen/\ ∀y∈x,wfShelfNode y:=by
 intro n ms h;cases n with
 |zero=>exact h.elim
 |succ d=>unfold MT at h;rw [Tryz.underlying22] at h;obtain ⟨xs,rfl,h1,h2⟩:=h;obtain ⟨L,rfl,h3⟩:=DE (λx (hx:ME Tryz.prog (MT Tryz.prog d) 98 x)=>me98 hx) h2;exact ⟨L,rfl,by simpa using h1,h3⟩
theorem me22 {n:Nat}{m:MV}(h:ME Tryz.prog (MT Tryz.prog n) 22 m): ∃x:List af,m=(GS aW) x/\x.length<=Go.maxLen/\ ∀y∈x,wfShelfNode y:=by unfold ME at h;rw [Tryz.underlying22] at h;obtain ⟨x,e,w⟩:=rd22 h;exact ⟨x,by simpa using e,w⟩
def wfShelfShelf (x:aA):Prop:=(x.L.length<=Go.maxLen/\ ∀y∈x.L,wfShelfNode y)
theorem rd24: ∀{n:Nat}{ms:List MV},MT Tryz.prog n 24 ms-> ∃x:aA,ms=[.list (x.L.map aW)]/\wfShelfShelf x:=by
 intro n ms h;cases n with
 |zero=>exact h.elim
 |succ d=>unfold MT at h;rw [Tryz.underlying24] at h;change FT (MT Tryz.prog d) [22] ms at h;obtain ⟨_,_,rfl,h0,rfl⟩:=h;obtain ⟨x0,rfl,w0⟩:=rd22 h0;exact ⟨⟨x0⟩,by simp,w0⟩
theorem me24 {n:Nat}{m:MV}(h:ME Tryz.prog (MT Tryz.prog n) 24 m): ∃x:aA,m=cB x/\wfShelfShelf x:=by unfold ME at h;rw [Tryz.underlying24] at h;obtain ⟨cs,rfl,h⟩:=h;obtain ⟨x,rfl,w⟩:=rd24 h;exact ⟨x,rfl,w⟩
def wfLeaseSession (x:aC):Prop:=((Lit.int .i64 x.Id).wf=true)/\((Lit.int .i64 x.Span).wf=true)/\((Lit.int .i64 x.cF).wf=true)
theorem rd126: ∀{n:Nat}{ms:List MV},MT Tryz.prog n 126 ms-> ∃x:aC,ms=[.i .i64 x.Id,.i .i64 x.Span,.i .i64 x.cF]/\wfLeaseSession x:=by
 intro n ms h;cases n with
 |zero=>exact h.elim
 |succ d=>unfold MT at h;rw [Tryz.underlying126] at h;change FT (MT Tryz.prog d) [3,3,3] ms at h;obtain ⟨_,_,rfl,h0,_,_,rfl,h1,_,_,rfl,h2,rfl⟩:=h;obtain ⟨x0,rfl,w0⟩:=rd3 h0;obtain ⟨x1,rfl,w1⟩:=rd3 h1;obtain ⟨x2,rfl,w2⟩:=rd3 h2;exact ⟨⟨x0,x1,x2⟩,by simp,w0,w1,w2⟩
theorem me126 {n:Nat}{m:MV}(h:ME Tryz.prog (MT Tryz.prog n) 126 m): ∃x:aC,m=a8 x/\wfLeaseSession x:=by unfold ME at h;rw [Tryz.underlying126] at h;obtain ⟨cs,rfl,h⟩:=h;obtain ⟨x,rfl,w⟩:=rd126 h;exact ⟨x,rfl,w⟩
theorem rd25: ∀{n:Nat}{ms:List MV},MT Tryz.prog n 25 ms-> ∃x:List aC,ms=[.list (x.map a8)]/\x.length<=Go.maxLen/\ ∀y∈x,wfLeaseSession y:=by
 intro n ms h;cases n with
 |zero=>exact h.elim
 |succ d=>unfold MT at h;rw [Tryz.underlying25] at h;obtain ⟨xs,rfl,h1,h2⟩:=h;obtain ⟨L,rfl,h3⟩:=DE (λx (hx:ME Tryz.prog (MT Tryz.prog d) 126 x)=>me126 hx) h2;exact ⟨L,rfl,by simpa using h1,h3⟩
theorem me25 {n:Nat}{m:MV}(h:ME Tryz.prog (MT Tryz.prog n) 25 m): ∃x:List aC,m=(GS a8) x/\x.length<=Go.maxLen/\ ∀y∈x,wfLeaseSession y:=by unfold ME at h;rw [Tryz.underlying25] at h;obtain ⟨x,e,w⟩:=rd25 h;exact ⟨x,by simpa using e,w⟩
def wfLeaseBook (x:aK):Prop:=((Lit.int .i64 x.ct).wf=true)/\(x.L.length<=Go.maxLen/\ ∀y∈x.L,wfLeaseSession y)
theorem rd27: ∀{n:Nat}{ms:List MV},MT Tryz.prog n 27 ms-> ∃x:aK,ms=[.i .i64 x.ct,.list (x.L.map a8)]/\wfLeaseBook x:=by
 intro n ms h;cases n with
 |zero=>exact h.elim
 |succ d=>unfold MT at h;rw [Tryz.underlying27] at h;change FT (MT Tryz.prog d) [3,25] ms at h;obtain ⟨_,_,rfl,h0,_,_,rfl,h1,rfl⟩:=h;obtain ⟨x0,rfl,w0⟩:=rd3 h0;obtain ⟨x1,rfl,w1⟩:=rd25 h1;exact ⟨⟨x0,x1⟩,by simp,w0,w1⟩
theorem me27 {n:Nat}{m:MV}(h:ME Tryz.prog (MT Tryz.prog n) 27 m): ∃x:aK,m=dQ x/\wfLeaseBook x:=by unfold ME at h;rw [Tryz.underlying27] at h;obtain ⟨cs,rfl,h⟩:=h;obtain ⟨x,rfl,w⟩:=rd27 h;exact ⟨x,rfl,w⟩
theorem rd4: ∀{n:Nat}{ms:List MV},MT Tryz.prog n 4 ms-> ∃x:Bool,ms=[.b x]/\True:=by
 intro n ms h;cases n with
 |zero=>exact h.elim
 |succ d=>unfold MT at h;rw [Tryz.underlying4] at h;obtain ⟨x,rfl⟩:=h;exact ⟨x,rfl,trivial⟩
theorem me4 {n:Nat}{m:MV}(h:ME Tryz.prog (MT Tryz.prog n) 4 m): ∃x:Bool,m=MV.b x/\True:=by unfold ME at h;rw [Tryz.underlying4] at h;obtain ⟨x,e,w⟩:=rd4 h;exact ⟨x,by simpa using e,w⟩
def wfWatchWatch (x:aq):Prop:=(x.Path.length<=Go.maxLen)/\((Lit.int .i64 x.Client).wf=true)/\(True)
theorem rd75: ∀{n:Nat}{ms:List MV},MT Tryz.prog n 75 ms-> ∃x:aq,ms=[.s x.Path,.i .i64 x.Client,.b x.Kids]/\wfWatchWatch x:=by
 intro n ms h;cases n with
 |zero=>exact h.elim
 |succ d=>unfold MT at h;rw [Tryz.underlying75] at h;change FT (MT Tryz.prog d) [9,3,4] ms at h;obtain ⟨_,_,rfl,h0,_,_,rfl,h1,_,_,rfl,h2,rfl⟩:=h;obtain ⟨x0,rfl,w0⟩:=rd9 h0;obtain ⟨x1,rfl,w1⟩:=rd3 h1;obtain ⟨x2,rfl,w2⟩:=rd4 h2;exact ⟨⟨x0,x1,x2⟩,by simp,w0,w1,w2⟩
theorem me75 {n:Nat}{m:MV}(h:ME Tryz.prog (MT Tryz.prog n) 75 m): ∃x:aq,m=bo x/\wfWatchWatch x:=by unfold ME at h;rw [Tryz.underlying75] at h;obtain ⟨cs,rfl,h⟩:=h;obtain ⟨x,rfl,w⟩:=rd75 h;exact ⟨x,rfl,w⟩
theorem rd28: ∀{n:Nat}{ms:List MV},MT Tryz.prog n 28 ms-> ∃x:List aq,ms=[.list (x.map bo)]/\x.length<=Go.maxLen/\ ∀y∈x,wfWatchWatch y:=by
 intro n ms h;cases n with
 |zero=>exact h.elim
 |succ d=>unfold MT at h;rw [Tryz.underlying28] at h;obtain ⟨xs,rfl,h1,h2⟩:=h;obtain ⟨L,rfl,h3⟩:=DE (λx (hx:ME Tryz.prog (MT Tryz.prog d) 75 x)=>me75 hx) h2;exact ⟨L,rfl,by simpa using h1,h3⟩
theorem me28 {n:Nat}{m:MV}(h:ME Tryz.prog (MT Tryz.prog n) 28 m): ∃x:List aq,m=(GS bo) x/\x.length<=Go.maxLen/\ ∀y∈x,wfWatchWatch y:=by unfold ME at h;rw [Tryz.underlying28] at h;obtain ⟨x,e,w⟩:=rd28 h;exact ⟨x,by simpa using e,w⟩
def wfWatchTable (x:cf):Prop:=(x.L.length<=Go.maxLen/\ ∀y∈x.L,wfWatchWatch y)
theorem rd30: ∀{n:Nat}{ms:List MV},MT Tryz.prog n 30 ms-> ∃x:cf,ms=[.list (x.L.map bo)]/\wfWatchTable x:=by
 intro n ms h;cases n with
 |zero=>exact h.elim
 |succ d=>unfold MT at h;rw [Tryz.underlying30] at h;change FT (MT Tryz.prog d) [28] ms at h;obtain ⟨_,_,rfl,h0,rfl⟩:=h;obtain ⟨x0,rfl,w0⟩:=rd28 h0;exact ⟨⟨x0⟩,by simp,w0⟩
theorem me30 {n:Nat}{m:MV}(h:ME Tryz.prog (MT Tryz.prog n) 30 m): ∃x:cf,m=jF x/\wfWatchTable x:=by unfold ME at h;rw [Tryz.underlying30] at h;obtain ⟨cs,rfl,h⟩:=h;obtain ⟨x,rfl,w⟩:=rd30 h;exact ⟨x,rfl,w⟩
theorem rd54: ∀{n:Nat}{ms:List MV},MT Tryz.prog n 54 ms-> ∃x:Int,ms=[.i .i64 x]/\(Lit.int .i64 x).wf=true:=by
 intro n ms h;cases n with
 |zero=>exact h.elim
 |succ d=>unfold MT at h;rw [Tryz.underlying54] at h;obtain ⟨x,rfl,h⟩:=h;exact ⟨x,rfl,h⟩
theorem me54 {n:Nat}{m:MV}(h:ME Tryz.prog (MT Tryz.prog n) 54 m): ∃x:Int,m=(MV.i .i64) x/\(Lit.int .i64 x).wf=true:=by unfold ME at h;rw [Tryz.underlying54] at h;obtain ⟨x,e,w⟩:=rd54 h;exact ⟨x,by simpa using e,w⟩
theorem rd55: ∀{n:Nat}{ms:List MV},MT Tryz.prog n 55 ms-> ∃x:List (List UInt8),ms=[.list (x.map MV.s)]/\x.length<=Go.maxLen/\ ∀y∈x,y.length<=Go.maxLen:=by
 intro n ms h;cases n with
 |zero=>exact h.elim
 |succ d=>unfold MT at h;rw [Tryz.underlying55] at h;obtain ⟨xs,rfl,h1,h2⟩:=h;obtain ⟨L,rfl,h3⟩:=DE (λx (hx:ME Tryz.prog (MT Tryz.prog d) 9 x)=>me9 hx) h2;exact ⟨L,rfl,by simpa using h1,h3⟩
theorem me55 {n:Nat}{m:MV}(h:ME Tryz.prog (MT Tryz.prog n) 55 m): ∃x:List (List UInt8),m=(GS MV.s) x/\x.length<=Go.maxLen/\ ∀y∈x,y.length<=Go.maxLen:=by unfold ME at h;rw [Tryz.underlying55] at h;obtain ⟨x,e,w⟩:=rd55 h;exact ⟨x,by simpa using e,w⟩
def wfOrderReply (x:aj):Prop:=((Lit.int .i64 x.Client).wf=true)/\((Lit.int .i64 x.Seq).wf=true)/\((Lit.int .i64 x.E).wf=true)/\(x.Value.length<=Go.maxLen)/\((Lit.int .i64 x.Version).wf=true)/\(x.Names.length<=Go.maxLen/\ ∀y∈x.Names,y.length<=Go.maxLen)
theorem rd57: ∀{n:Nat}{ms:List MV},MT Tryz.prog n 57 ms-> ∃x:aj,ms=[.i .i64 x.Client,.i .i64 x.Seq,.i .i64 x.E,.s x.Value,.i .i64 x.Version,.list (x.Names.map MV.s)]/\wfOrderReply x:=by
 intro n ms h;cases n with
 |zero=>exact h.elim
 |succ d=>unfold MT at h;rw [Tryz.underlying57] at h;change FT (MT Tryz.prog d) [3,3,54,9,3,55] ms at h;obtain ⟨_,_,rfl,h0,_,_,rfl,h1,_,_,rfl,h2,_,_,rfl,h3,_,_,rfl,h4,_,_,rfl,h5,rfl⟩:=h;obtain ⟨x0,rfl,w0⟩:=rd3 h0;obtain ⟨x1,rfl,w1⟩:=rd3 h1;obtain ⟨x2,rfl,w2⟩:=rd54 h2;obtain ⟨x3,rfl,w3⟩:=rd9 h3;obtain ⟨x4,rfl,w4⟩:=rd3 h4;obtain ⟨x5,rfl,w5⟩:=rd55 h5;exact ⟨⟨x0,x1,x2,x3,x4,x5⟩,by simp,w0,w1,w2,w3,w4,w5⟩
theorem me57 {n:Nat}{m:MV}(h:ME Tryz.prog (MT Tryz.prog n) 57 m): ∃x:aj,m=bh x/\wfOrderReply x:=by unfold ME at h;rw [Tryz.underlying57] at h;obtain ⟨cs,rfl,h⟩:=h;obtain ⟨x,rfl,w⟩:=rd57 h;exact ⟨x,rfl,w⟩
theorem rd31: ∀{n:Nat}{ms:List MV},MT Tryz.prog n 31 ms-> ∃x:List aj,ms=[.list (x.map bh)]/\x.length<=Go.maxLen/\ ∀y∈x,wfOrderReply y:=by
 intro n ms h;cases n with
 |zero=>exact h.elim
 |succ d=>unfold MT at h;rw [Tryz.underlying31] at h;obtain ⟨xs,rfl,h1,h2⟩:=h;obtain ⟨L,rfl,h3⟩:=DE (λx (hx:ME Tryz.prog (MT Tryz.prog d) 57 x)=>me57 hx) h2;exact ⟨L,rfl,by simpa using h1,h3⟩
theorem me31 {n:Nat}{m:MV}(h:ME Tryz.prog (MT Tryz.prog n) 31 m): ∃x:List aj,m=(GS bh) x/\x.length<=Go.maxLen/\ ∀y∈x,wfOrderReply y:=by unfold ME at h;rw [Tryz.underlying31] at h;obtain ⟨x,e,w⟩:=rd31 h;exact ⟨x,by simpa using e,w⟩
def wfRealmRealm (x:au):Prop:=(wfShelfShelf x.Shelf)/\(wfLeaseBook x.aN)/\(wfWatchTable x.aR)/\(x.Seen.length<=Go.maxLen/\ ∀y∈x.Seen,wfOrderReply y)
theorem rd33: ∀{n:Nat}{ms:List MV},MT Tryz.prog n 33 ms-> ∃x:au,ms=[.list (x.Shelf.L.map aW),.i .i64 x.aN.ct,.list (x.aN.L.map a8),.list (x.aR.L.map bo),.list (x.Seen.map bh)]/\wfRealmRealm x:=by
 intro n ms h;cases n with
 |zero=>exact h.elim
 |succ d=>unfold MT at h;rw [Tryz.underlying33] at h;change FT (MT Tryz.prog d) [24,27,30,31] ms at h;obtain ⟨_,_,rfl,h0,_,_,rfl,h1,_,_,rfl,h2,_,_,rfl,h3,rfl⟩:=h;obtain ⟨x0,rfl,w0⟩:=rd24 h0;obtain ⟨x1,rfl,w1⟩:=rd27 h1;obtain ⟨x2,rfl,w2⟩:=rd30 h2;obtain ⟨x3,rfl,w3⟩:=rd31 h3;exact ⟨⟨x0,x1,x2,x3⟩,by simp,w0,w1,w2,w3⟩
theorem me33 {n:Nat}{m:MV}(h:ME Tryz.prog (MT Tryz.prog n) 33 m): ∃x:au,m=eg x/\wfRealmRealm x:=by unfold ME at h;rw [Tryz.underlying33] at h;obtain ⟨cs,rfl,h⟩:=h;obtain ⟨x,rfl,w⟩:=rd33 h;exact ⟨x,rfl,w⟩
def wfOrderOrder (x:aB):Prop:=((Lit.int .i64 x.Client).wf=true)/\((Lit.int .i64 x.Seq).wf=true)/\((Lit.int .i64 x.Kind).wf=true)/\(x.Path.length<=Go.maxLen)/\(x.Value.length<=Go.maxLen)/\((Lit.int .i64 x.Version).wf=true)/\((Lit.int .i64 x.Session).wf=true)/\((Lit.int .i64 x.Span).wf=true)
theorem rd35: ∀{n:Nat}{ms:List MV},MT Tryz.prog n 35 ms-> ∃x:aB,ms=[.i .i64 x.Client,.i .i64 x.Seq,.i .i64 x.Kind,.s x.Path,.s x.Value,.i .i64 x.Version,.i .i64 x.Session,.i .i64 x.Span]/\wfOrderOrder x:=by
 intro n ms h;cases n with
 |zero=>exact h.elim
 |succ d=>unfold MT at h;rw [Tryz.underlying35] at h;change FT (MT Tryz.prog d) [3,3,3,9,9,3,3,3] ms at h;obtain ⟨_,_,rfl,h0,_,_,rfl,h1,_,_,rfl,h2,_,_,rfl,h3,_,_,rfl,h4,_,_,rfl,h5,_,_,rfl,h6,_,_,rfl,h7,rfl⟩:=h;obtain ⟨x0,rfl,w0⟩:=rd3 h0;obtain ⟨x1,rfl,w1⟩:=rd3 h1;obtain ⟨x2,rfl,w2⟩:=rd3 h2;obtain ⟨x3,rfl,w3⟩:=rd9 h3;obtain ⟨x4,rfl,w4⟩:=rd9 h4;obtain ⟨x5,rfl,w5⟩:=rd3 h5;obtain ⟨x6,rfl,w6⟩:=rd3 h6;obtain ⟨x7,rfl,w7⟩:=rd3 h7;exact ⟨⟨x0,x1,x2,x3,x4,x5,x6,x7⟩,by simp,w0,w1,w2,w3,w4,w5,w6,w7⟩
theorem me35 {n:Nat}{m:MV}(h:ME Tryz.prog (MT Tryz.prog n) 35 m): ∃x:aB,m=eJ x/\wfOrderOrder x:=by unfold ME at h;rw [Tryz.underlying35] at h;obtain ⟨cs,rfl,h⟩:=h;obtain ⟨x,rfl,w⟩:=rd35 h;exact ⟨x,rfl,w⟩
theorem own:ownKnob Tryz.prog.godebug=none:=by kernel_rfl
theorem laidOut:laidOutB Tryz.prog=true:=by kernel_rfl
theorem sound_law: ∀ms,DD Tryz.prog Tryz.f3.params.toList ms->lY Tryz.prog cx 3 ms (.b true):=by intro ms h;rw [show Tryz.f3.params= #[33,35] from Tryz.params3] at h;obtain ⟨m0,_,rfl,⟨_,h0⟩,m1,_,rfl,⟨_,h1⟩,h⟩:=h;have h:_=[]:=h;subst h;obtain ⟨x0,rfl,w0⟩:=me33 h0;obtain ⟨x1,rfl,w1⟩:=me35 h1;refine AP.all 3 _ _ ?_;have he:=FH x0 x1;rw [FV x0 x1] at he;exact he
theorem law_lifted (os:Os)(started:os.Started)(H:Type)(enc:TypeId×Value->H): ReturnsInHanded {} Tryz.checked os 3 .any (λw args=>(Rows.realmAppliesSpec.pre enc Tryz.prog Tryz.f3 Rows.realmAppliesRow.domain false w args/\laidMet Tryz.prog Rows.realmAppliesRow.laid w)/\sizedMet enc Tryz.prog Tryz.f3 (OpenSpec.ofChange Rows.realmAppliesSpec) false w args) (Rows.realmAppliesSpec.post enc Tryz.prog Tryz.f3 false true false false):=by
 refine returnsInHanded_of_change_and (C:=Tryz.checked) (X:=λw _=>laidMet Tryz.prog Rows.realmAppliesRow.laid w) (λ_ _ _ hh h=>h.of_heap hh) own started (by kernel_rfl) Tryz.func3 (ChangeSpec.witness_shaped (enc:=enc) (C:=Tryz.checked) (os:=os) (X:=λw _=>laidMet Tryz.prog Rows.realmAppliesRow.laid w) false (am2 Tryz.prog Rows.realmAppliesRow.laid os #[.agg #[.slice none 0 0,.int .i64 0,.slice none 0 0,.slice none 0 0,.slice none 0 0],.agg #[.int .i64 0,.int .i64 0,.int .i64 0,.string ⟨#[]⟩,.string ⟨#[]⟩,.int .i64 0,.int .i64 0,.int .i64 0]]) #[.agg #[.slice none 0 0,.int .i64 0,.slice none 0 0,.slice none 0 0,.slice none 0 0],.agg #[.int .i64 0,.int .i64 0,.int .i64 0,.string ⟨#[]⟩,.string ⟨#[]⟩,.int .i64 0,.int .i64 0,.int .i64 0]] 8 rfl (World.shaped_of_RefB (by kernel_rfl) (by kernel_rfl)) (by kernel_rfl) (by kernel_rfl) (by kernel_rfl) (laidMet_of_run3 8 (by kernel_rfl) (by kernel_rfl) (by kernel_rfl))) ?_;intro W base args ds gs before hval0 hW hcnd _ _ _;refine WA (c:=cx) (tb:=4) Tryz.func3 (by kernel_rfl) (by kernel_rfl) laidOut ?_ (by kernel_rfl) Tryz.underlying4 rfl ?_ hval0 hW (by kernel_rfl) sound_law
 ·intro t ht;rw [show Tryz.f3.params= #[33,35] from Tryz.params3] at ht;rcases List.mem_cons.1 ht with rfl|ht
  ·exact ⟨⟨30,by kernel_rfl⟩,by kernel_rfl,of_decide_eq_true (by kernel_rfl)⟩
  rcases List.mem_cons.1 ht with rfl|ht
  ·exact ⟨⟨30,by kernel_rfl⟩,by kernel_rfl,of_decide_eq_true (by kernel_rfl)⟩
  cases ht
 ·intro ds hd;rw [show Tryz.f3.params= #[33,35] from Tryz.params3] at hd;match ds,hd with
  |[_,_],_=>rfl
def headNs:List Nat:=[104,97,114,110,101,115,115,32,49,51,51,53,52,50,48,100,55,100,56,57,49,97,52,52,98,98,97,54,99,51,56,100,101,49,48,56,98,102,57,55,49,56,52,49,57,98,98,102,48,98,99,48,49,51,99,51,99,98,102,100,55,99,100,97,50,57,53,54,98,99,49,52,32,99,117,116,32,97,116,32,99,111,110,115,105,115,116,111,114,121,47,99,111,110,115,105,115,116,111,114,121,108,97,119,49,51,46,82,101,97,108,109,65,112,112,108,105,101,115,32,99,111,110,115,105,115,116,111,114,121,47,99,111,110,115,105,115,116,111,114,121,108,97,119,49,51,46,82,101,97,108,109,69,118,101,110,116,115,32,99,111,110,115,105,115,116,111,114,121,47,99,111,110,115,105,115,116,111,114,121,108,97,119,49,51,46,82,101,97,108,109,70,111,108,100,115,32,99,111,110,115,105,115,116,111,114,121,47,99,111,110,115,105,115,116,111,114,121,108,97,119,49,51,46,82,101,97,108,109,79,110,99,101,32,99,111,110,115,105,115,116,111,114,121,47,99,111,110,115,105,115,116,111,114,121,108,97,119,49,51,46,82,101,97,108,109,82,101,97,100,115,32,99,111,110,115,105,115,116,111,114,121,47,99,111,110,115,105,115,116,111,114,121,108,97,119,49,51,46,82,101,97,108,109,79,119,110,101,114,115,32,99,111,110,115,105,115,116,111,114,121,47,99,111,110,115,105,115,116,111,114,121,108,97,119,49,52,46,66,97,116,99,104,66,97,99,107,32,99,111,110,115,105,115,116,111,114,121,47,99,111,110,115,105,115,116,111,114,121,108,97,119,49,52,46,66,97,116,99,104,79,110,99,101,32,99,111,110,115,105,115,116,111,114,121,47,99,111,110,115,105,115,116,111,114,121,108,97,119,49,52,46,66,97,116,99,104,84,101,108,108,115,32,99,111,110,115,105,115,116,111,114,121,47,99,111,110,115,105,115,116,111,114,121,108,97,119,49,52,46,66,97,116,99,104,87,97,105,116,115]
def headWs:List (List Nat):=[[97,116],[99,111,110,115,105,115,116,111,114,121,47,99,111,110,115,105,115,116,111,114,121,108,97,119,49,51,46,82,101,97,108,109,65,112,112,108,105,101,115],[99,111,110,115,105,115,116,111,114,121,47,99,111,110,115,105,115,116,111,114,121,108,97,119,49,51,46,82,101,97,108,109,69,118,101,110,116,115],[99,111,110,115,105,115,116,111,114,121,47,99,111,110,115,105,115,116,111,114,121,108,97,119,49,51,46,82,101,97,108,109,70,111,108,100,115],[99,111,110,115,105,115,116,111,114,121,47,99,111,110,115,105,115,116,111,114,121,108,97,119,49,51,46,82,101,97,108,109,79,110,99,101],[99,111,110,115,105,115,116,111,114,121,47,99,111,110,115,105,115,116,111,114,121,108,97,119,49,51,46,82,101,97,108,109,82,101,97,100,115],[99,111,110,115,105,115,116,111,114,121,47,99,111,110,115,105,115,116,111,114,121,108,97,119,49,51,46,82,101,97,108,109,79,119,110,101,114,115],[99,111,110,115,105,115,116,111,114,121,47,99,111,110,115,105,115,116,111,114,121,108,97,119,49,52,46,66,97,116,99,104,66,97,99,107],[99,111,110,115,105,115,116,111,114,121,47,99,111,110,115,105,115,116,111,114,121,108,97,119,49,52,46,66,97,116,99,104,79,110,99,101],[99,111,110,115,105,115,116,111,114,121,47,99,111,110,115,105,115,116,111,114,121,108,97,119,49,52,46,66,97,116,99,104,84,101,108,108,115],[99,111,110,115,105,115,116,111,114,121,47,99,111,110,115,105,115,116,111,114,121,108,97,119,49,52,46,66,97,116,99,104,87,97,105,116,115]]
theorem head_ok:Tryz.prog.initOrder=String.ofList (headNs.map Char.ofNat):=by kernel_rfl
theorem words_ok:behindMainWord (wordsSigns (headNs.map Char.ofNat))=Cg::headWs.map (·.map Char.ofNat):=by kernel_rfl
theorem head_words:behindMainWord (wordsSigns Tryz.prog.initOrder.toList)=Cg::headWs.map (·.map Char.ofNat):=by rw [M6 head_ok,words_ok]
theorem strip1:(stripLifts liftWords (Cg::headWs.map (·.map Char.ofNat))).1=[]:=by kernel_rfl
theorem strip2:((stripLifts liftWords (Cg::headWs.map (·.map Char.ofNat))).2.head? ==some "cut".toList)=true:=by kernel_rfl
theorem may_ok:Tryz.prog.mayEnter=true:=acu head_words strip1 strip2 (by kernel_rfl) (by kernel_rfl) (by kernel_rfl)
theorem lifts_ok:(Rows.realmAppliesRow.lifted==Tryz.prog.liftsFinal)=true:=acz (acy head_words strip1) (by kernel_rfl)
theorem make_ok:(Tryz.prog.make==some Rows.realmAppliesRow.make)=true:=afE (afD head_words) (by kernel_rfl)
theorem closed_ok:joinedFacts Tryz.prog 3 Tryz.f3 Rows.realmAppliesSpec Rows.realmAppliesRow=true:=by
 unfold joinedFacts;repeat' (with_reducible apply R0)
 all_goals first|(with_reducible exact may_ok)|(with_reducible exact lifts_ok)|(with_reducible exact make_ok)|kernel_rfl
theorem row_holds:Rows.RealmAppliesSaid:=OpenClaim.holds_of_wide 3 Tryz.f3 rfl rfl rfl rfl rfl rfl rfl ⟨rfl,rfl,rfl,rfl,rfl⟩ rfl rfl rfl rfl rfl (by kernel_rfl) Tryz.func3 closed_ok (of_decide_eq_true (by kernel_rfl)) (by unfold Func.isWrapper;first|(rw [if_pos (by decide+kernel)];kernel_rfl)|(rw [if_neg (by decide+kernel)];exact ⟨rfl,rfl⟩)) (λos started H enc _=>law_lifted os started H enc)
theorem main_words:wordsSigns (headNs.map Char.ofNat)=[104,97,114,110,101,115,115].map Char.ofNat::[49,51,51,53,52,50,48,100,55,100,56,57,49,97,52,52,98,98,97,54,99,51,56,100,101,49,48,56,98,102,57,55,49,56,52,49,57,98,98,102,48,98,99,48,49,51,99,51,99,98,102,100,55,99,100,97,50,57,53,54,98,99,49,52].map Char.ofNat::Cg::headWs.map (·.map Char.ofNat):=by kernel_rfl
theorem main_ok:Tryz.prog.mainIs=some (true, "1335420d7d891a44bba6c38de108bf9718419bbf0bc013c3cbfd7cda2956bc14".toList):=by
 rw [afC (P:=Tryz.prog) ((congrArg wordsSigns (M6 head_ok)).trans main_words) (by kernel_rfl) (by kernel_rfl)]
 have h:[49,51,51,53,52,50,48,100,55,100,56,57,49,97,52,52,98,98,97,54,99,51,56,100,101,49,48,56,98,102,57,55,49,56,52,49,57,98,98,102,48,98,99,48,49,51,99,51,99,98,102,100,55,99,100,97,50,57,53,54,98,99,49,52].map Char.ofNat= "1335420d7d891a44bba6c38de108bf9718419bbf0bc013c3cbfd7cda2956bc14".toList:=by kernel_rfl
 rw [h]
theorem law_holds:Rows.RealmAppliesCardSaid:=
 Claim7.holds_tied_plain_at .later [] [.data,.pinned] true (true, "1335420d7d891a44bba6c38de108bf9718419bbf0bc013c3cbfd7cda2956bc14") false
  row_holds (λ_ h=>by cases h) (by kernel_rfl) (λ_ h=>by cases h) realmApplies_row_tie rfl ⟨rfl,rfl⟩ main_ok rfl
  (λf fn hf hfn=>by
   obtain rfl:f=3:=Option.some.inj ((show Tryz.prog.funcNamed Rows.realmAppliesRow.func=some 3 by kernel_rfl).symm.trans hf)|>.symm;obtain rfl:fn=Tryz.f3:=(Option.some.inj (Tryz.func3.symm.trans hfn)).symm;exact ⟨by kernel_rfl,λj t ht=>by
    rw [Tryz.params3] at ht;have hm:t∈[33,35]:=by simpa using Array.mem_of_getElem? ht
    have lW:([33,35].all λu=>!Tryz.prog.wantsStandIn u)=true:=by kernel_rfl
    exact (show Tryz.prog.wantsStandIn t=false by simpa using List.all_eq_true.1 lW t hm)⟩)
  (by kernel_rfl)
end Go.Proofs.YtbkodohojpchjaaGreatDoor
