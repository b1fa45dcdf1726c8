import GoSem.Dispatch
import Derived.Orders
import Derived.Calls
import Derived.Laws.AppendOwn
import Derived.Laws.AppendOwnNone
import Derived.Deep.MidRow
import Derived.Laws.Strings
/-
  An abstract run of Go functions over values that no one changes: definitions. Conditions: none.
-/
set_option linter.unusedVariables false
namespace Dn
open Go

/-- a sum: 32 bytes -/
structure Hash where
  l : List UInt8
  h : l.length = 32

theorem Hash.ext' {a b : Hash} (e : a.l = b.l) : a = b := by cases a; cases b; cases e; rfl
instance : DecidableEq Hash := fun a b => if e : a.l = b.l then .isTrue (Hash.ext' e) else .isFalse (fun h => e (by rw [h]))
def Hash.zero : Hash := ⟨[0,0,0,0,0,0,0,0,0,0,0,0,0,0,0,0,0,0,0,0,0,0,0,0,0,0,0,0,0,0,0,0], rfl⟩
def Hash.put (x : Hash) (i : Nat) (b : UInt8) : Hash := ⟨x.l.set i b, by simp [x.h]⟩

/-- what a value means -/
inductive MV where
  | b (x : Bool)
  | i (k : IntKind) (n : Int)
  | s (l : List UInt8)
  | h (x : Hash)
  | raw (v : Value)
  | list (xs : List MV)
  | agg (cs : List MV)
  | tup (vs : List MV)
  | func (f : Nat) (cap : List MV)
  | rp (cs : List MV)
  | fresh (xs : List MV)
  | cell (m : MV)
  | wback (r : MV) (outs : List MV)
  /-- a slice whose room is its length -/
  | clip (xs : List MV)

instance : Inhabited MV := ⟨.b false⟩

mutual
/-- how many cells a value takes -/
def MV.w : MV → Nat
  | .h _ => 32
  | .agg cs => MV.wl cs
  | _ => 1
def MV.wl : List MV → Nat
  | [] => 0
  | m :: r => m.w + MV.wl r
end
/-- values that take so many cells each -/
def wids (n : Nat) (l : List MV) : Bool := l.all fun m => Nat.beq m.w n

/-- kinds of leaves -/
inductive Kd where
  | b | i (k : IntKind) | s | l | h | raw
/-- what a map's keys are (a struct; its leaves), and are its values bools (numbers if not) -/
structure MS where
  st : Bool
  lay : List Kd
  b : Bool
/-- the mark of what goes through a string: `.mp MS.it [.s l, .i .i64 pos]` -/
def MS.it : MS := ⟨true, [], true⟩
def isIt (s : MS) : Bool := match s.lay with
  | [] => s.st
  | _ => false
/-- a leaf of a variable: unknown; a value; a sum; a nil slice; an owned slice; a map's entries (key, value), in the order in which they came -/
inductive Leaf where
  | un
  | p (m : MV)
  | hs (x : Hash)
  | nil
  | own (fam : Nat)
  | mp (s : MS) (es : List MV)
def Leaf.w : Leaf → Nat
  | .hs _ => 32
  | _ => 1

inductive Slot where
  | skip
  | sc (l : Leaf)
  | ag (cs : List Leaf)
  | tup (vs : List Slot)
  | box (cs : List Leaf)
  | fbox (cs : List Leaf)
  | ptr (root off : Nat)
  | mref (root : Nat)
  | rp (cs : List Leaf) (off : Nat)
  | hp (root off : Nat) (i : Nat)
  | ep (fam : Nat) (i : Nat) (off : Nat) (st : Bool) (cs : List Leaf)

abbrev Fr := List (Nat × Slot)

structure TI where
  st : Bool
  size : Nat
  bytes : Nat
  lay : List Kd
  zero : List Leaf
  flds : List Nat
  ftys : List Nat
  elem : Nat
  comps : List Nat

section
variable {R : Type}

def gB (m : MV) (K : Bool → Option R) : Option R := match m with | .b x => K x | _ => none
def gI (k : IntKind) (m : MV) (K : Int → Option R) : Option R := match m with | .i k' n => bif decide (k' = k) then K n else none | _ => none
def gS (m : MV) (K : List UInt8 → Option R) : Option R := match m with | .s l => K l | _ => none
def gL (m : MV) (K : List MV → Option R) : Option R := match m with | .list l => K l | _ => none
def gH (m : MV) (K : Hash → Option R) : Option R := match m with | .h l => K l | _ => none
def gA (m : MV) (K : List MV → Option R) : Option R := match m with | .agg l => K l | _ => none
def gT (m : MV) (K : List MV → Option R) : Option R := match m with | .tup l => K l | _ => none
def gF (m : MV) (K : List MV → Option R) : Option R := match m with | .fresh l => K l | _ => none
def gCl (m : MV) (K : List MV → Option R) : Option R := match m with | .clip l => K l | _ => none
def gFn (m : MV) (K : Nat → List MV → Option R) : Option R := match m with | .func f c => K f c | _ => none
def gW (m : MV) (K : MV → List MV → Option R) : Option R := match m with | .wback r outs => K r outs | _ => none
def gP (m : MV) (K : List MV → Option R) : Option R := match m with | .rp c => K c | _ => none
def gCx (m : MV) (K : Nat → Nat → Option R) : Option R := match m with | .raw (.complex .f64 a b) => K a b | _ => none
/-- a value of one cell that is handed on as it is -/
def gR (m : MV) (K : MV → Option R) : Option R := match m with | .raw v => K (.raw v) | .func f c => K (.func f c) | .rp c => K (.rp c) | _ => none
def gC (l : List MV) (K : MV → List MV → Option R) : Option R := match l with | m :: r => K m r | [] => none
def gN (l : List MV) (K : Option R) : Option R := match l with | [] => K | _ => none
def bd {α : Type} (x : Option α) (K : α → Option R) : Option R := match x with | some a => K a | none => none
def idxO (l : List MV) (i : Int) : Option MV := if 0 ≤ i then l[i.toNat]? else none
/-- element i of a list -/
def idx (l : List MV) (i : Int) (K : MV → Option R) : Option R :=
  match idxO l i with | some x => K x | none => none
def chk (c : Bool) (K : Option R) : Option R := match c with | true => K | false => none
def ifB (c : Bool) (x y : Option R) : Option R := match c with | true => x | false => y
/-- where ways meet again, or a loop is left: by which exit -/
def exs : List Nat → Nat → (Nat → Option R) → Option R
  | [], _, _ => none
  | [p], e, K => bif Nat.beq e p then K p else none
  | p :: q :: r, e, K => bif Nat.beq e p then K p else exs (q :: r) e K

def oLeaf (k : Kd) (m : MV) (K : Leaf → Option R) : Option R :=
  match k with
  | .b => gB m fun x => K (.p (.b x))
  | .i k => gI k m fun x => K (.p (.i k x))
  | .s => gS m fun x => K (.p (.s x))
  | .l => gL m fun x => K (.p (.list x))
  | .h => gH m fun x => K (.hs x)
  | .raw => gR m fun m => K (.p m)
def oLeaves : List Kd → List MV → (List Leaf → Option R) → Option R
  | [], l, K => gN l (K [])
  | k :: ks, l, K => gC l fun m r => oLeaf k m fun x => oLeaves ks r fun xs => K (x :: xs)
end

def iter {σ R : Type} (body : σ → Option (Sum σ R)) : Nat → σ → Option R
  | 0, _ => none
  | n + 1, s => match body s with
    | some (.inl s') => iter body n s'
    | some (.inr r) => some r
    | none => none
open Classical in
noncomputable def Loop {σ R : Type} (body : σ → Option (Sum σ R)) (s : σ) : Option R :=
  if h : ∃ r n, iter body n s = some r then some (Classical.choose h) else none

def fget : Fr → Nat → Slot
  | [], _ => .sc .un
  | (k, s) :: r, t => bif Nat.beq k t then s else fget r t
def fset {R : Type} : Fr → Nat → Slot → (Fr → Option R) → Option R
  | [], t, v, K => K [(t, v)]
  | (k, s) :: r, t, v, K => bif Nat.beq k t then K ((k, v) :: r) else fset r t v fun r => K ((k, s) :: r)
def force {R : Type} (s : Slot) (K : Slot → Option R) : Option R := match s with
  | .skip => K .skip
  | .sc l => K (.sc l)
  | .ag cs => K (.ag cs)
  | .tup vs => K (.tup vs)
  | .box cs => K (.box cs)
  | .fbox cs => K (.fbox cs)
  | .ptr r o => K (.ptr r o)
  | .mref r => K (.mref r)
  | .rp cs o => K (.rp cs o)
  | .hp r o i => K (.hp r o i)
  | .ep f i o b cs => K (.ep f i o b cs)
def nmem : List Nat → Nat → Bool
  | [], _ => false
  | k :: r, t => bif Nat.beq k t then true else nmem r t
/-- the names of variables that others own -/
def psB (t : Nat) : Bool := Nat.ble 1000000 t
/-- where the pointer to it stands; its offset -/
def posOf (t : Nat) : Nat := (t - 1000000) % 1000
def offOf (t : Nat) : Nat := (t - 1000000) / 1000
def plk : List (Nat × Nat) → Nat → Option Nat
  | [], _ => none
  | (k, x) :: r, t => bif Nat.beq k t then some x else plk r t
def isPtr : Slot → Bool
  | .ptr _ _ | .hp _ _ _ | .ep _ _ _ _ _ | .rp _ _ | .mref _ => true
  | _ => false
def dropPtrs {R : Type} (ds : List Nat) : Fr → (Fr → Option R) → Option R
  | [], K => K []
  | (k, s) :: r, K => bif isPtr s || nmem ds k then dropPtrs ds r K else dropPtrs ds r fun r => K ((k, s) :: r)
def isBox : Slot → Bool
  | .box _ | .fbox _ => true
  | _ => false
/-- those of some names -/
def pick {R : Type} (ks : List Nat) : Fr → (Fr → Option R) → Option R
  | [], K => K []
  | (k, s) :: r, K => bif nmem ks k && !isPtr s then pick ks r fun r => K ((k, s) :: r) else pick ks r K

/-- an owned slice: may its prefix be shared, its elements -/
structure Own where
  ty : Nat
  frz : Bool
  xs : List MV

structure St where
  prot : List Nat
  pfam : List Nat
  fr : Fr
  fams : List (Nat × Own)

def oget : List (Nat × Own) → Nat → Option Own
  | [], _ => none
  | (k, s) :: r, t => bif Nat.beq k t then some s else oget r t
def oset {R : Type} : List (Nat × Own) → Nat → Own → (List (Nat × Own) → Option R) → Option R
  | [], t, v, K => K [(t, v)]
  | (k, s) :: r, t, v, K => bif Nat.beq k t then K ((k, v) :: r) else oset r t v fun r => K ((k, s) :: r)

def kB (a b : IntKind) : Bool := decide (a = b)
def kdB : Kd → Kd → Bool
  | .b, .b => true
  | .i k, .i k' => kB k k'
  | .s, .s => true
  | .l, .l => true
  | .h, .h => true
  | .raw, .raw => true
  | _, _ => false
def kdsB : List Kd → List Kd → Bool
  | [], [] => true
  | x :: xs, y :: ys => kdB x y && kdsB xs ys
  | _, _ => false
def msB (s t : MS) : Bool := (s.st == t.st) && (kdsB s.lay t.lay && (s.b == t.b))
def kLeaves {R : Type} (f : Nat) : List Leaf → (List Leaf → Option R) → Option R
  | [], K => K []
  | l :: r, K => (match l with
    | .own g => bif Nat.beq g f then kLeaves f r fun r => K (.un :: r) else kLeaves f r fun r => K (.own g :: r)
    | l => kLeaves f r fun r => K (l :: r))
def kSlot {R : Type} (f : Nat) (s : Slot) (K : Slot → Option R) : Option R := match s with
  | .sc (.own g) => bif Nat.beq g f then K (.sc .un) else K (.sc (.own g))
  | .ag cs => kLeaves f cs fun cs => K (.ag cs)
  | .box cs => kLeaves f cs fun cs => K (.box cs)
  | .ep g i o b cs => bif Nat.beq g f then K (.sc .un) else K (.ep g i o b cs)
  | s => K s
/-- no slot speaks of this family any more -/
def kFr {R : Type} (f : Nat) : Fr → (Fr → Option R) → Option R
  | [], K => K []
  | (k, s) :: r, K => kSlot f s fun s => kFr f r fun r => K ((k, s) :: r)

section
variable {R : Type}
/-- leaves as values that no one changes; owned slices among them are shared from now on -/
def shLeaf (st : St) (l : Leaf) (K : MV → St → Option R) : Option R :=
  match l with
  | .un => none
  | .p m => K m st
  | .hs x => K (.h x) st
  | .nil => K (.list []) st
  | .mp _ _ => none
  | .own f => match oget st.fams f with
    | some o => bif o.frz then K (.list o.xs) st else bif nmem st.pfam f then none else (match st with | ⟨p, q, r, m⟩ => oset m f ⟨o.ty, true, o.xs⟩ fun m => K (.list o.xs) ⟨p, q, r, m⟩)
    | none => none
def shLeaves (st : St) : List Leaf → (List MV → St → Option R) → Option R
  | [], K => K [] st
  | l :: r, K => shLeaf st l fun m st => shLeaves st r fun ms st => K (m :: ms) st
def shSlot (st : St) (s : Slot) (K : MV → St → Option R) : Option R :=
  match s with
  | .sc l => shLeaf st l K
  | .ag cs => shLeaves st cs fun ms st => K (.agg ms) st
  | .rp cs off => bif Nat.beq off 0 then shLeaves st cs fun ms st => K (.rp ms) st else none
  | _ => none
def shSlots (st : St) : List Slot → (List MV → St → Option R) → Option R
  | [], K => K [] st
  | l :: r, K => shSlot st l fun m st => shSlots st r fun ms st => K (m :: ms) st
end

def sumW : List Leaf → Nat
  | [] => 0
  | k :: r => k.w + sumW r
/-- leaves from an offset on -/
def cut : List Leaf → Nat → Option (List Leaf)
  | cs, 0 => some cs
  | c :: cs, n + 1 => bif Nat.ble c.w (n + 1) then cut cs (n + 1 - c.w) else none
  | _, _ => none
/-- leaves of so many cells -/
def upTo : List Leaf → Nat → Option (List Leaf)
  | _, 0 => some []
  | c :: cs, n + 1 => bif Nat.ble c.w (n + 1) then (match upTo cs (n + 1 - c.w) with | some b => some (c :: b) | none => none) else none
  | _, _ => none
def part (cs : List Leaf) (off n : Nat) : Option (List Leaf) :=
  match cut cs off with
  | some a => upTo a n
  | none => none
/-- leaves with the first of them written anew -/
def over : List Leaf → List Leaf → Option (List Leaf)
  | [], cs => some cs
  | v :: vs, c :: cs => bif Nat.beq v.w c.w then (match over vs cs with | some r => some (v :: r) | none => none) else none
  | _, [] => none
def putAt : List Leaf → Nat → List Leaf → Option (List Leaf)
  | cs, 0, vs => over vs cs
  | c :: cs, n + 1, vs => bif Nat.ble c.w (n + 1) then (match putAt cs (n + 1 - c.w) vs with | some r => some (c :: r) | none => none) else none
  | _, _, _ => none
def app {α : Type} : List α → List α → Option (List α)
  | [], l => some l
  | x :: r, l => (match app r l with | some q => some (x :: q) | none => none)
def isUn : Leaf → Bool
  | .un => true
  | .mp _ _ => true
  | _ => false
/-- is it a map -/
def isMp : List Leaf → Bool
  | [.mp _ _] => true
  | _ => false
/-- a variable that is no map -/
def boxB : Slot → Bool
  | .box cs => !isMp cs
  | _ => false
/-- pointers to variables that are still there -/
def backP {R : Type} (ok : Nat → Bool) (r0 : Fr) : Fr → Fr → (Fr → Option R) → Option R
  | [], fr, K => K fr
  | (t, s) :: r, fr, K => match s with
    | .ptr root off => bif ok t && (!psB root && (boxB (fget r0 root) && (boxB (fget fr root) && !isBox (fget fr t)))) then fset fr t (.ptr root off) fun fr => backP ok r0 r fr K else backP ok r0 r fr K
    | _ => backP ok r0 r fr K
/-- is it really a map -/
def isMa : List Leaf → Bool
  | [.mp s _] => !isIt s
  | _ => false
def anyUn : List Leaf → Bool
  | [] => false
  | l :: r => bif isUn l then true else anyUn r

/-- pointers into the elements of a family hold no longer -/
def kEp {R : Type} (f : Nat) : Fr → (Fr → Option R) → Option R
  | [], K => K []
  | (k, s) :: r, K => (match s with
    | .ep g i o b cs => bif Nat.beq g f then kEp f r fun r => K ((k, .sc .un) :: r) else kEp f r fun r => K ((k, .ep g i o b cs) :: r)
    | s => kEp f r fun r => K ((k, s) :: r))

/-- kinds of what is handed on where ways meet -/
inductive LK where
  | k (x : Kd)
  | own (f : Nat) (ty : Nat) (frz : Bool)
inductive OK where
  | sc (l : LK)
  | ag (ls : List LK)
  | box (ls : List LK)
  | mp (s : MS)
  /-- a pointer to a variable that is handed on, too -/
  | pt (root off : Nat)

structure Hint where
  prot : List Nat
  pfam : List Nat
  outs : List (Nat × OK)
  exo : List (Nat × List (Nat × OK))
  frz : List Nat
instance : Inhabited Hint := ⟨⟨[], [], [], [], []⟩⟩
def exOf : List (Nat × List (Nat × OK)) → Nat → List (Nat × OK)
  | [], _ => []
  | (k, l) :: r, e => bif Nat.beq k e then l else exOf r e
def Hint.ex (h : Hint) (e : Nat) : List (Nat × OK) := exOf h.exo e
def allEx : List (Nat × List (Nat × OK)) → List (Nat × OK)
  | [] => []
  | (_, l) :: r => l ++ allEx r
def Hint.all (h : Hint) : List (Nat × OK) := h.outs ++ allEx h.exo

structure Ctx where
  ti : Nat → Option TI
  key : Nat → Nat
  g : Nat → List MV → Option MV
  /-- are the first and the last of a function's three arguments given away for good; is its result; the type of the elements -/
  gives : Nat → Bool
  fresh : Nat → Bool
  fty : Nat → Nat
  /-- which argument points to a variable of others'; the kinds of its leaves -/
  sig : Nat → Option (Nat × List LK)
  /-- this function's own argument that points to a variable of others', and that variable's name -/
  par : List (Nat × Nat)
  /-- the number of temporaries; slices that are written out, and only read -/
  n : Nat
  bs : List Nat
  /-- loads of what no one changes; variables that are changed no more, by region; the types of floats -/
  fl : List Nat
  fz : Nat → List Nat
  fk : Nat → Option FloatKind
  /-- types of maps: the key's type; are the values bools (numbers if not) -/
  mt : Nat → Option (Nat × Bool)
  ord : Nat → List Nat
  reg : Nat → Hint
  cnd : Nat → Hint
  lop : Nat → Hint
  /-- slices.DeleteFunc -/
  dels : Nat → Bool
  /-- what a function that is told by a value, and handed a variable, may be -/
  dyn : List Nat

/-- the row of a type of one value -/
def Ctx.tv (c : Ctx) (t : Nat) : Option TI := match c.ti t with | some I => (match I.comps with | [] => some I | _ => none) | none => none
def constSlot : Value → Slot
  | .bool b => .sc (.p (.b b))
  | .int k n => .sc (.p (.i k n))
  | .string s => .sc (.p (.s s.data.toList))
  | .slice none 0 0 => .sc .nil
  | .float k b => .sc (.p (.raw (.float k b)))
  | .complex k a b => .sc (.p (.raw (.complex k a b)))
  | .pointer none => .sc (.p (.raw (.pointer none)))
  | .nilFunc => .sc (.p (.raw .nilFunc))
  | .nilIface => .sc (.p (.raw .nilIface))
  | _ => .sc .un

def evalO (c : Ctx) (st : St) : Operand → Slot
  | .tmp t => match plk c.par t with
   | some q => bif psB q && Nat.beq (posOf q) t then (match fget st.fr q with | .box cs => bif isMp cs then .sc .un else .ptr q (offOf q) | _ => .sc .un) else .sc .un
   | none => match fget st.fr t with
    | .box cs => bif psB t then .sc .un else bif isMa cs then .mref t else .ptr t 0
    | .fbox cs => .rp cs 0
    | s => s
  | .const v => constSlot v
  | .func f => .sc (.p (.func (c.key f) []))
  | .global _ => .sc .un
def evals (c : Ctx) (st : St) : List Operand → List Slot
  | [] => []
  | o :: r => evalO c st o :: evals c st r

section
variable {R : Type}

/-- a slot is written -/
def wr (st : St) (d : Nat) (s : Slot) (K : St → Option R) : Option R :=
  bif nmem st.prot d then none else (match st with | ⟨p, q, r, m⟩ => force s fun s => fset r d s fun r => K ⟨p, q, r, m⟩)
def setDst (c : Ctx) (st : St) (d : Option Nat) (s : Slot) (K : St → Option R) : Option R :=
  match d with
  | some d => bif psB d || (Nat.ble c.n d || isBox (fget st.fr d)) then none else wr st d s K
  | none => K st
/-- a family comes to have other content; what was read of it holds no longer -/
def putFam (st : St) (f : Nat) (o : Own) (K : St → Option R) : Option R :=
  bif nmem st.pfam f then none else (match st with | ⟨p, q, r, m⟩ => kFr f r fun r => oset m f o fun m => K ⟨p, q, r, m⟩)

def ldLeaves (I : TI) (cs : List Leaf) (off : Nat) (K : Slot → Option R) : Option R :=
  bif I.st then (match part cs off I.size with | some a => K (.ag a) | none => none)
  else (match cut cs off with | some (l :: _) => bif Nat.beq l.w I.size then K (.sc l) else none | _ => none)
def ldK (st : St) (I : TI) (a : Slot) (K : Slot → Option R) : Option R :=
  match a with
  | .ptr root off => match fget st.fr root with
    | .box cs => bif isMp cs then none else ldLeaves I cs off K
    | _ => none
  | .rp cs off => ldLeaves I cs off K
  | .ep f _ off _ cs => (match oget st.fams f with | some _ => ldLeaves I cs off K | none => none)
  | .hp root off i => bif I.st || !Nat.beq I.size 1 then none else (match fget st.fr root with
    | .box cs => bif isMp cs then none else (match cut cs off with | some (.hs x :: _) => K (.sc (.p (.i .u8 (x.l.getD i 0).toNat))) | _ => none)
    | _ => none)
  | _ => none
def slotLeaves : Slot → List Leaf
  | .sc l => [l]
  | .ag cs => cs
  | _ => []
def leavesMV : List Leaf → Option (List MV)
  | [] => some []
  | l :: r => match l, leavesMV r with
    | .p m, some q => some (m :: q)
    | .hs x, some q => some (.h x :: q)
    | _, _ => none
/-- leaves whose owned slices are shared now -/
def pureLs : List Leaf → List MV → Option (List Leaf)
  | [], [] => some []
  | .hs x :: r, _ :: ms => (match pureLs r ms with | some q => some (.hs x :: q) | none => none)
  | _ :: r, m :: ms => (match pureLs r ms with | some q => some (.p m :: q) | none => none)
  | _, _ => none
/-- an element out of its leaves -/
def reEl (b : Bool) (cs : List MV) : Option MV := match b, cs with
  | false, [m] => some m
  | true, cs => some (.agg cs)
  | _, _ => none
/-- a number that a byte holds -/
def isByte (n : Int) : Bool := decide (n = ((UInt8.ofNat n.toNat).toNat : Int))
def stK (st : St) (I : TI) (a v : Slot) (K : St → Option R) : Option R :=
  bif anyUn (slotLeaves v) || !Nat.beq (sumW (slotLeaves v)) I.size then none else
  match a with
  | .ptr root off => match fget st.fr root with
    | .box cs => bif isMp cs then none else (match putAt cs off (slotLeaves v) with | some cs' => wr st root (.box cs') K | none => none)
    | _ => none
  | .hp root off i => match fget st.fr root, v with
    | .box cs, .sc (.p n) => bif isMp cs then none else (match cut cs off with
      | some (.hs x :: _) => gI .u8 n fun n => chk (isByte n) (match putAt cs off [.hs (x.put i (UInt8.ofNat n.toNat))] with | some cs' => wr st root (.box cs') K | none => none)
      | _ => none)
    | _, _ => none
  | .ep f i off b cs => shLeaves st (slotLeaves v) fun ms st => match oget st.fams f with
    | some o => bif o.frz then none else
        (match pureLs (slotLeaves v) ms with
        | some vs => (match putAt cs off vs with
          | some cs' => (match leavesMV cs' with
            | some ms' => (match reEl b ms' with
              | some x => bif nmem st.pfam f then none else
                (match st with | ⟨p, q, r, m⟩ => kEp f r fun r => oset m f ⟨o.ty, false, o.xs.set i x⟩ fun m => K ⟨p, q, r, m⟩)
              | none => none)
            | none => none)
          | none => none)
        | none => none)
    | none => none
  | _ => none
def openEl (I : TI) (x : MV) (K : List Leaf → Option R) : Option R :=
  bif I.st then gA x fun cs => oLeaves I.lay cs K
  else match I.lay with
    | [k] => oLeaf k x fun x => K [x]
    | _ => none
def openV (I : TI) (x : MV) (K : Slot → Option R) : Option R :=
  bif I.st then gA x fun cs => oLeaves I.lay cs fun cs => K (.ag cs)
  else match I.lay with
    | [k] => oLeaf k x fun x => K (.sc x)
    | _ => none
def openVs (c : Ctx) : List Nat → List MV → (List Slot → Option R) → Option R
  | [], l, K => gN l (K [])
  | t :: ts, l, K => match c.tv t with
    | some I => gC l fun m r => openV I m fun s => openVs c ts r fun ss => K (s :: ss)
    | none => none
def openRes (c : Ctx) (I : TI) (x : MV) (K : Slot → Option R) : Option R :=
  match I.comps with
  | [] => openV I x K
  | ts => gT x fun vs => openVs c ts vs fun ss => K (.tup ss)

/-- comparing leaves -/
def eqLeaf : Leaf → Leaf → Option Bool
  | .p (.b x), .p (.b y) => some (decide (x = y))
  | .p (.i k x), .p (.i k' y) => bif decide (k = k') then some (decide (x = y)) else none
  | .p (.s x), .p (.s y) => some (decide (x = y))
  | .hs x, .hs y => some (decide (x = y))
  | _, _ => none
def eqLeaves : List Leaf → List Leaf → Option Bool
  | [], [] => some true
  | [x], [y] => eqLeaf x y
  | x :: xs, y :: ys => match eqLeaf x y, eqLeaves xs ys with
    | some a, some b => some (a && b)
    | _, _ => none
  | _, _ => none
def strCmp (op : BinOp) (x y : List UInt8) : Option MV :=
  match op with
  | .eql => some (.b (decide (x = y)))
  | .neq => some (.b (!decide (x = y)))
  | .lss => some (.b (Op.bytesLess x y))
  | .gtr => some (.b (!(Op.bytesLess x y || decide (x = y))))
  | .leq => some (.b (Op.bytesLess x y || decide (x = y)))
  | .geq => some (.b (!Op.bytesLess x y))
  | _ => none
/-- bits -/
def bAnd (k : IntKind) (x y : Int) : Int := k.wrap ((BitVec.ofInt k.bits x &&& BitVec.ofInt k.bits y).toNat : Int)
def bOr (k : IntKind) (x y : Int) : Int := k.wrap ((BitVec.ofInt k.bits x ||| BitVec.ofInt k.bits y).toNat : Int)
def bXor (k : IntKind) (x y : Int) : Int := k.wrap ((BitVec.ofInt k.bits x ^^^ BitVec.ofInt k.bits y).toNat : Int)
def intOp (op : BinOp) (k : IntKind) (x y : Int) : Option MV :=
  match op with
  | .add => some (.i k (k.wrap (x + y)))
  | .sub => some (.i k (k.wrap (x - y)))
  | .mul => some (.i k (k.wrap (x * y)))
  | .and => some (.i k (bAnd k x y))
  | .or => some (.i k (bOr k x y))
  | .xor => some (.i k (bXor k x y))
  | .eql => some (.b (decide (x = y)))
  | .neq => some (.b (!decide (x = y)))
  | .lss => some (.b (decide (x < y)))
  | .leq => some (.b (decide (x ≤ y)))
  | .gtr => some (.b (decide (y < x)))
  | .geq => some (.b (decide (y ≤ x)))
  | _ => none
def fitL : Kd → Leaf → Bool
  | .b, .p (.b _) => true
  | .i k, .p (.i k' _) => decide (k' = k)
  | .s, .p (.s _) => true
  | .h, .hs _ => true
  | _, _ => false
def fitLs : List Kd → List Leaf → Bool
  | [], [] => true
  | k :: ks, l :: ls => bif fitL k l then fitLs ks ls else false
  | _, _ => false
/-- is a slot of a struct's shape where its type is one -/
def shapeB (st : Bool) : Slot → Bool
  | .ag _ => st
  | .sc _ => !st
  | _ => false
def flOp (op : BinOp) (a b : Nat) : Option Nat := match op with
  | .add => FloatKind.f64.format.add a b
  | .sub => FloatKind.f64.format.sub a b
  | .mul => FloatKind.f64.format.mul a b
  | _ => none
def binK (oI : Option TI) (op : BinOp) (x y : Slot) (K : Slot → Option R) : Option R :=
  match x, y with
  | .sc (.p (.i k a)), .sc (.p (.i k' b)) =>
    (match op with
     | .quo => bif decide (k = k') then chk (!decide (b = 0)) (K (.sc (.p (.i k (k.wrap (a.tdiv b)))))) else none
     | .rem => bif decide (k = k') then chk (!decide (b = 0)) (K (.sc (.p (.i k (a.tmod b))))) else none
     | .shr => chk (decide (0 ≤ b)) (K (.sc (.p (.i k (a.fdiv (2 ^ min b.toNat k.bits))))))
     | .shl => chk (decide (0 ≤ b)) (K (.sc (.p (.i k (k.wrap (a * 2 ^ min b.toNat k.bits))))))
     | _ => bif decide (k = k') then (match intOp op k a b with | some m => K (.sc (.p m)) | none => none) else none)
  | .sc (.p (.s a)), .sc (.p (.s b)) => (match op with
     | .add => chk (decide (a.length + b.length ≤ 2 ^ 46)) (K (.sc (.p (.s (a ++ b)))))
     | _ => (match strCmp op a b with | some m => K (.sc (.p m)) | none => none))
  | .sc (.p (.raw (.float .f64 a))), .sc (.p (.raw (.float .f64 b))) => bd (flOp op a b) fun r => K (.sc (.p (.raw (.float .f64 r))))
  | x, y => match oI with
    | some I => bif fitLs I.lay (slotLeaves x) && fitLs I.lay (slotLeaves y) && (shapeB I.st x && shapeB I.st y) then (match op with
      | .eql => (match eqLeaves (slotLeaves x) (slotLeaves y) with | some b => K (.sc (.p (.b b))) | none => none)
      | .neq => (match eqLeaves (slotLeaves x) (slotLeaves y) with | some b => K (.sc (.p (.b (!b)))) | none => none)
      | _ => none) else none
    | none => none
def sliceB (lo hi : Option Slot) (len : Nat) (K : Nat → Nat → Option R) : Option R :=
  match lo, hi with
  | none, none => K 0 len
  | some (.sc (.p (.i _ l))), none => chk (decide (0 ≤ l ∧ l ≤ (len : Int) ∧ (len : Int) ≤ (len : Int))) (K l.toNat (Int.toNat (len : Int)))
  | none, some (.sc (.p (.i _ h))) => chk (decide (0 ≤ (0 : Int) ∧ (0 : Int) ≤ h ∧ h ≤ (len : Int))) (K (Int.toNat 0) h.toNat)
  | some (.sc (.p (.i _ l))), some (.sc (.p (.i _ h))) => chk (decide (0 ≤ l ∧ l ≤ h ∧ h ≤ (len : Int))) (K l.toNat h.toNat)
  | _, _ => none
def optEval (c : Ctx) (st : St) : Option Operand → Option Slot
  | some o => some (evalO c st o)
  | none => none
/-- a new element's values -/
def zeroMs : List Leaf → Option (List MV)
  | [] => some []
  | l :: r => match l, zeroMs r with
    | .p m, some q => some (m :: q)
    | .hs x, some q => some (.h x :: q)
    | .nil, some q => some (.list [] :: q)
    | _, _ => none
/-- a slice of new elements -/
def mkslK (d : Nat) (st : St) (I E : TI) (x y : Slot) (K : Slot → St → Option R) : Option R := match x, y with
  | .sc (.p (.i _ n)), .sc (.p (.i _ m)) => bif Nat.ble 1 E.bytes then chk (decide ((0 : Int) ≤ n ∧ n = m ∧ n * E.bytes ≤ 2 ^ 46)) (match zeroMs E.zero with
    | some zs => (match reEl E.st zs with
      | some z => putFam st d ⟨I.elem, false, List.replicate n.toNat z⟩ fun st => K (.sc (.own d)) st
      | none => none)
    | none => none) else none
  | _, _ => none
def TI.isL (I : TI) : Bool := match I.st, I.lay with | false, [.l] => true | _, _ => false
def TI.isS (I : TI) : Bool := match I.st, I.lay with | false, [.s] => true | _, _ => false
def isU8 (E : TI) : Bool := match E.st, E.lay with
  | false, [.i k] => decide (k = .u8)
  | _, _ => false
/-- the bytes of a string, as a row -/
def bysM (l : List UInt8) : List MV := l.map fun b => .i .u8 (b.toNat : Int)
/-- a string that is appended -/
def elemsS (c : Ctx) (u : Nat) (E : TI) (x : Slot) (K : List MV → Option R) : Option R := match c.tv u, x with
  | some T, .sc (.p (.s l)) => bif T.isS && isU8 E then K (bysM l) else none
  | _, _ => none
/-- the elements that are appended -/
def elemsK (I E : TI) (st : St) (x : Slot) (K : List MV → Option R) : Option R := match x with
  | .sc (.p (.list xs)) => chk (wids E.size xs) (K xs)
  | .sc .nil => K []
  | .sc (.own f) => (match oget st.fams f with | some o => bif Nat.beq o.ty I.elem then K o.xs else none | none => none)
  | _ => none
/-- the parts of a struct, one after the other -/
def buildF (c : Ctx) (st : St) (I : TI) : List (Nat × Operand) → List Leaf → Option (List Leaf)
  | [], cs => some cs
  | (i, o) :: r, cs => match I.flds[i]?, I.ftys[i]? with
    | some q, some y => (match c.tv y with
      | some J => bif anyUn (slotLeaves (evalO c st o)) || !Nat.beq (sumW (slotLeaves (evalO c st o))) J.size then none else
        (match putAt cs q (slotLeaves (evalO c st o)) with | some cs' => buildF c st I r cs' | none => none)
      | none => none)
    | _, _ => none
def buildH (c : Ctx) (st : St) : List (Nat × Operand) → Hash → (Hash → Option R) → Option R
  | [], x, K => K x
  | (i, o) :: r, x, K => match evalO c st o with
    | .sc (.p m) => bif Nat.ble 32 i then none else gI .u8 m fun n => chk (isByte n) (buildH c st r (x.put i (UInt8.ofNat n.toNat)) K)
    | _ => none
def elsK (c : Ctx) (st : St) : List (Nat × Operand) → Nat → (List MV → St → Option R) → Option R
  | [], _, K => K [] st
  | (i, o) :: r, n, K => bif Nat.beq i n then shSlot st (evalO c st o) fun m st => elsK c st r (n + 1) fun ms st => K (m :: ms) st else none
def capsK (c : Ctx) (st : St) : List Operand → (List MV → St → Option R) → Option R
  | [], K => K [] st
  | o :: r, K => match evalO c st o with
    | .ptr root 0 => (match fget st.fr root with
      | .box cs => bif anyUn cs || psB root then none else shLeaves st cs fun ms st => (match pureLs cs ms with | some cs' => wr st root (.fbox cs') fun st => capsK c st r fun xs st => K (.rp ms :: xs) st | none => none)
      | _ => none)
    | .rp cs 0 => shLeaves st cs fun ms st => capsK c st r fun xs st => K (.rp ms :: xs) st
    | _ => none
/-- an argument that is given away for good -/
def giveK (c : Ctx) (k : Nat) (st : St) (s : Slot) (K : MV → St → Option R) : Option R := match s with
  | .sc (.own f) => (match oget st.fams f with
    | some o => bif o.frz || !Nat.beq o.ty (c.fty k) then none else putFam st f ⟨o.ty, true, []⟩ fun st => K (.fresh o.xs) st
    | none => none)
  | .sc .nil => (match c.tv (c.fty k) with | some _ => K (.fresh []) st | none => none)
  | _ => none
/-- arguments: of three the first, or the first and the last, may be given away -/
def argsK (c : Ctx) (k : Nat) (st : St) (ss : List Slot) (K : List MV → St → Option R) : Option R :=
  bif c.gives k then (match ss with
    | [s0, s1, s2] => (match s2 with
      | .sc (.p m2) => shSlot st s1 fun m1 st => giveK c k st s0 fun m0 st => K [m0, m1, m2] st
      | s2 => shSlot st s1 fun m1 st => giveK c k st s0 fun m0 st => giveK c k st s2 fun m2 st => K [m0, m1, m2] st)
    | _ => none)
  else shSlots st ss K
def imin (x y : Int) : Int := if y < x then y else x
def imax (x y : Int) : Int := if y > x then y else x
def minL (mx : Bool) (k : IntKind) : Int → List Slot → Option MV
  | x, [] => some (.i k x)
  | x, .sc (.p (.i k' y)) :: r => bif decide (k' = k) then minL mx k (bif mx then imax x y else imin x y) r else none
  | _, _ => none
def minK (mx : Bool) : List Slot → Option MV
  | .sc (.p (.i k n)) :: r => minL mx k n r
  | _ => none
def callK (c : Ctx) (d : Nat) (st : St) (f : Nat) (ms : List MV) (I : TI) (K : Slot → St → Option R) : Option R :=
  bd (c.g f ms) fun r => bif c.fresh f then bif Nat.beq (c.fty f) 0 then gCl r fun xs => K (.sc (.p (.clip xs))) st else gF r fun xs => bif !Nat.beq I.elem (c.fty f) then none else putFam st d ⟨I.elem, false, xs⟩ fun st => (bif nmem c.bs d then shLeaf st (.own d) fun m st => K (.sc (.p m)) st else K (.sc (.own d)) st) else openRes c I r fun s => K s st

def nilK (s : Slot) (K : Slot → Option R) : Option R := match s with
  | .ptr r o => K (.ptr r o)
  | .rp cs o => K (.rp cs o)
  | _ => none
def pickK (x y z : Slot) (K : Slot → Option R) : Option R := match x with
  | .sc (.p (.b v)) => (match y, z with
    | .sc (.p (.b p)), .sc (.p (.b q)) => K (.sc (.p (.b (bif v then p else q))))
    | p, q => match v with | true => K p | false => K q)
  | _ => none
def boxK (I : TI) (s : Slot) (K : Slot → Option R) : Option R := match s with
  | .sc l => bif I.st || isUn l || !Nat.beq l.w I.size then none else K (.box [l])
  | .ag cs => bif I.st && !anyUn cs && Nat.beq (sumW cs) I.size then K (.box cs) else none
  | _ => none
def unK (op : UnOp) (s : Slot) (K : Slot → Option R) : Option R := match op, s with
  | .not, .sc (.p (.b v)) => K (.sc (.p (.b (!v))))
  | .neg, .sc (.p (.i k n)) => K (.sc (.p (.i k (k.wrap (0 - n)))))
  | _, _ => none
def convK (I : TI) (fk : Option FloatKind) (s : Slot) (K : Slot → Option R) : Option R := match I.st, I.comps, I.lay, s with
  | false, [], [.i k], .sc (.p (.i _ n)) => K (.sc (.p (.i k (k.wrap n))))
  | false, [], [.s], .sc (.p (.s l)) => K (.sc (.p (.s l)))
  | false, [], [.i k], .sc (.p (.raw (.float .f64 a))) => bd ((FloatKind.decode .f64 a).toInt .zero) fun n => chk (decide (k.min ≤ n ∧ n ≤ k.max)) (K (.sc (.p (.i k n))))
  | false, [], [.raw], .sc (.p (.i _ n)) => (match fk with
    | some .f64 => K (.sc (.p (.raw (.float .f64 (FloatKind.nearest .f64 n)))))
    | _ => none)
  | _, _, _, _ => none
def sliceK (c : Ctx) (I : TI) (st : St) (s : Slot) (lo hi : Option Slot) (K : Slot → St → Option R) : Option R := match s with
  | .sc (.p (.s l)) => bif I.isS then sliceB lo hi l.length fun a b => K (.sc (.p (.s ((l.take b).drop a)))) st else none
  | .sc (.p (.list l)) => bif I.isL then (match c.tv I.elem with
    | some E => (match lo with
      | none => sliceB none hi l.length fun a b => K (.sc (.p (.list ((l.take b).drop a)))) st
      | some lo => chk (wids E.size l) (sliceB (some lo) hi l.length fun a b => K (.sc (.p (.list ((l.take b).drop a)))) st))
    | none => none) else none
  | .sc (.own f) => (match oget st.fams f with
    | some o => bif I.isL && Nat.beq o.ty I.elem then shLeaf st (.own f) fun _ st => sliceB lo hi o.xs.length fun a b => K (.sc (.p (.list ((o.xs.take b).drop a)))) st else none
    | none => none)
  | .sc .nil => bif I.isL then sliceB lo hi 0 fun _ _ => K (.sc .nil) st else none
  | _ => none
/-- a slice whose room is cut to its length -/
def clipK (I : TI) (s h m : Slot) (K : Slot → Option R) : Option R := match s, h, m with
  | .sc (.p (.list l)), .sc (.p (.i .i64 n)), .sc (.p (.i .i64 n')) => bif I.isL then chk (decide (n = (l.length : Int) ∧ n' = (l.length : Int))) (K (.sc (.p (.clip l)))) else none
  | _, _, _ => none
def fldAK (st : St) (I : TI) (f : Nat) (s : Slot) (K : Slot → Option R) : Option R := match I.st, I.flds[f]?, s with
  | true, some q, .ptr r o => K (.ptr r (o + q))
  | true, some q, .rp cs o => K (.rp cs (o + q))
  | true, some q, .ep g i o b cs => (match oget st.fams g with | some _ => K (.ep g i (o + q) b cs) | none => none)
  | _, _, _ => none
def fldK (c : Ctx) (I : TI) (f : Nat) (s : Slot) (K : Slot → Option R) : Option R := match I.st, I.flds[f]?, I.ftys[f]?, s with
  | true, some q, some y, .ag cs => (match c.tv y with | some J => ldLeaves J cs q K | none => none)
  | _, _, _, _ => none
def ixAK (c : Ctx) (st : St) (I E : TI) (x i : Slot) (K : Slot → Option R) : Option R := match x, i with
  | .sc (.p (.list xs)), .sc (.p (.i _ n)) => bif I.isL then idx xs n fun x => openEl E x fun cs => K (.rp cs 0) else none
  | .sc (.own f), .sc (.p (.i _ n)) => (match oget st.fams f with
    | some o => bif I.isL then idx o.xs n fun x => openEl E x fun cs => K (.ep f n.toNat 0 E.st cs) else none
    | none => none)
  | .ptr r o, .sc (.p (.i _ n)) => bif I.st then none else (match I.lay with | [.h] => chk (decide ((0 : Int) ≤ n ∧ n < 32)) (K (.hp r o n.toNat)) | _ => none)
  | _, _ => none
def ixK (I : TI) (x i : Slot) (K : Slot → Option R) : Option R := match I.st, I.lay, x, i with
  | false, [.s], .sc (.p (.s l)), .sc (.p (.i _ n)) => chk (decide ((0 : Int) ≤ n ∧ n < (l.length : Int))) (K (.sc (.p (.i .u8 (l.getD n.toNat 0).toNat))))
  | false, [.h], .sc (.hs x), .sc (.p (.i _ n)) => chk (decide ((0 : Int) ≤ n ∧ n < 32)) (K (.sc (.p (.i .u8 (x.l.getD n.toNat 0).toNat))))
  | _, _, _, _ => none
def extK (s : Slot) (k : Nat) (K : Slot → Option R) : Option R := match s with
  | .tup vs => (match vs[k]? with | some s => K s | none => none)
  | _ => none
def lenK (I : TI) (st : St) (ss : List Slot) (K : Slot → Option R) : Option R := match ss with
  | [.sc (.p (.s l))] => bif I.isS then K (.sc (.p (.i .i64 l.length))) else none
  | [.sc (.p (.list l))] => bif I.isL then K (.sc (.p (.i .i64 l.length))) else none
  | [.sc .nil] => bif I.isL then K (.sc (.p (.i .i64 0))) else none
  | [.sc (.own f)] => bif I.isL then (match oget st.fams f with | some o => K (.sc (.p (.i .i64 o.xs.length))) | none => none) else none
  | _ => none
def appK (d : Nat) (st : St) (I E : TI) (s : Slot) (ys : List MV) (K : Slot → St → Option R) : Option R := bif Nat.ble 1 E.bytes then (match s with
  | .sc .nil => chk (decide (ys.length * E.bytes ≤ 2 ^ 46)) (putFam st d ⟨I.elem, false, ys⟩ fun st => K (.sc (.own d)) st)
  | .sc (.own f) => (match oget st.fams f with
    | some w => chk (decide ((w.xs.length + ys.length) * E.bytes ≤ 2 ^ 46)) (bif Nat.beq w.ty I.elem then putFam st f ⟨w.ty, w.frz, w.xs ++ ys⟩ fun st => K (.sc (.own f)) st else none)
    | none => none)
  | .sc (.p (.clip xs)) => chk (wids E.size xs) (chk (decide (0 < ys.length ∧ (xs.length + ys.length) * E.bytes ≤ 2 ^ 46)) (putFam st d ⟨I.elem, false, xs ++ ys⟩ fun st => K (.sc (.own d)) st))
  | _ => none) else none
def callDyn (c : Ctx) (st : St) (I : TI) (f : Slot) (ss : List Slot) (K : Slot → St → Option R) : Option R := match f with
  | .sc (.p m) => gFn m fun f caps => chk (!c.gives f) <| shSlots st ss fun ms st => bd (c.g f (ms ++ caps)) fun r => openRes c I r fun s => K s st
  | _ => none

/-! ### maps: entries `.tup [.agg key, value]`, in the order in which they came -/
def mvEq : MV → MV → Bool
  | .b x, .b y => decide (x = y)
  | .i k x, .i k' y => decide (k = k') && decide (x = y)
  | .s x, .s y => decide (x = y)
  | .h x, .h y => decide (x = y)
  | _, _ => false
def mvsEq : List MV → List MV → Bool
  | [], [] => true
  | x :: xs, y :: ys => mvEq x y && mvsEq xs ys
  | _, _ => false
def mkey : MV → List MV
  | .tup (.agg k :: _) => k
  | _ => []
def mval : MV → MV
  | .tup [_, v] => v
  | _ => .b false
/-- where a key stands; the number of all, if it is not there -/
def midx : List MV → List MV → Nat
  | [], _ => 0
  | e :: r, ks => bif mvsEq (mkey e) ks then 0 else midx r ks + 1
def asI : MV → Int
  | .i _ n => n
  | _ => 0
def asB : MV → Bool
  | .b x => x
  | _ => false
/-- what a key has: numbers, bools -/
def mgetI (es : List MV) (ks : List MV) : Int := match es[midx es ks]? with | some e => asI (mval e) | none => 0
def mgetB (es : List MV) (ks : List MV) : Bool := match es[midx es ks]? with | some e => asB (mval e) | none => false
/-- with an entry for a key -/
def ment (es ks : List MV) (z : MV) : List MV := bif Nat.beq (midx es ks) es.length then es ++ [.tup [.agg ks, z]] else es
/-- an entry's value -/
def mset (es : List MV) (i : Nat) (v : MV) : List MV := match es[i]? with | some e => es.set i (.tup [.agg (mkey e), v]) | none => es
def zeroM (b : Bool) : MV := bif b then .b false else .i .i64 0
/-- the shape of a type of maps -/
def msOf (c : Ctx) (t : Nat) : Option MS := match c.mt t with
  | some (kt, b) => (match c.tv kt with | some I => bif isIt ⟨I.st, I.lay, b⟩ then none else some ⟨I.st, I.lay, b⟩ | none => none)
  | none => none
/-- a key out of its slot -/
def keyK (s : MS) (k : Slot) (K : List MV → Option R) : Option R :=
  bif fitLs s.lay (slotLeaves k) && shapeB s.st k then (match leavesMV (slotLeaves k) with | some ks => K ks | none => none) else none
def mapK (st : St) (s : MS) (m : Slot) (K : Nat → List MV → Option R) : Option R := match m with
  | .mref r => (match fget st.fr r with | .box [.mp s' es] => bif msB s s' && !isIt s' then K r es else none | _ => none)
  | _ => none
def valK (b : Bool) (s : Slot) (K : MV → Option R) : Option R := match b, s with
  | true, .sc (.p (.b x)) => K (.b x)
  | false, .sc (.p (.i .i64 n)) => K (.i .i64 n)
  | _, _ => none
def mapSt (st : St) (r : Nat) (s : MS) (es : List MV) (K : St → Option R) : Option R := wr st r (.box [.mp s es]) K
def isLT (c : Ctx) (y : Nat) : Bool := match c.tv y with | some Y => Y.isL | none => false
/-- is it a map's move from its first slot: no plain look -/
def mvAs (c : Ctx) (o : Oper) : Bool := match o.op with
  | .assign (.tmp _) => (match c.mt o.type with | some _ => true | none => false)
  | _ => false
def assignK (c : Ctx) (o : Oper) (st : St) (x : Operand) (K : Slot → St → Option R) : Option R := match x, c.mt o.type with
  | .tmp t, some _ => (match fget st.fr t with
    | .box cs => bif isMp cs then bif nmem st.prot t || psB t then none else (match st with | ⟨p, q, r, m⟩ => dropPtrs [t] r fun r => K (.box cs) ⟨p, q, r, m⟩) else K (evalO c st x) st
    | _ => K (evalO c st x) st)
  | _, _ => K (evalO c st x) st
def getL (s : MS) (es ks : List MV) : Slot := bif s.b then .sc (.p (.b (mgetB es ks))) else .sc (.p (.i .i64 (mgetI es ks)))
def lookK (c : Ctx) (st : St) (t : Nat) (m k : Slot) (K : Slot → Option R) : Option R := match msOf c t with
  | some s => mapK st s m fun _ es => keyK s k fun ks => K (getL s es ks)
  | none => none
def mputK (c : Ctx) (st : St) (t : Nat) (m k v : Slot) (K : St → Option R) : Option R := match msOf c t with
  | some s => mapK st s m fun r es => keyK s k fun ks => valK s.b v fun v => mapSt st r s (mset (ment es ks (zeroM s.b)) (midx es ks) v) K
  | none => none
def mentK (c : Ctx) (st : St) (t : Nat) (m k : Slot) (K : Slot → St → Option R) : Option R := match msOf c t with
  | some s => mapK st s m fun r es => keyK s k fun ks => mapSt st r s (ment es ks (zeroM s.b)) fun st => K (.tup [getL s es ks, .sc (.p (.i .i64 (midx es ks)))]) st
  | none => none
def mstK (c : Ctx) (st : St) (t : Nat) (m i v : Slot) (K : St → Option R) : Option R := match msOf c t with
  | some s => mapK st s m fun r es => (match i with
    | .sc (.p (.i .i64 n)) => chk (decide (0 ≤ n ∧ n.toNat < es.length)) (valK s.b v fun v => mapSt st r s (mset es n.toNat v) K)
    | _ => none)
  | none => none

/-! ### what goes through a string -/
def itS (es : List MV) : List UInt8 := match es with | [.s l, .i .i64 _] => l | _ => []
def itPos (es : List MV) : Int := match es with | [.s _, .i .i64 n] => n | _ => 0
def itOk (es : List MV) : Bool := decide (itPos es < ((itS es).length : Int))
def itRune (es : List MV) : Int := (Utf8.decode ⟨(itS es).toArray⟩ (itPos es).toNat).1
def itStep (es : List MV) : List MV := [.s (itS es), .i .i64 (itPos es + (Utf8.decode ⟨(itS es).toArray⟩ (itPos es).toNat).2)]
def itK (st : St) (x : Slot) (K : Slot → St → Option R) : Option R := match x with
  | .ptr t 0 => (match fget st.fr t with
    | .box [.mp s es] => bif isIt s then
        ifB (itOk es) (wr st t (.box [.mp s (itStep es)]) fun st => K (.tup [.sc (.p (.b true)), .sc (.p (.i .i64 (itPos es))), .sc (.p (.i .i32 (itRune es)))]) st)
          (K (.tup [.sc (.p (.b false))]) st)
      else none
    | _ => none)
  | _ => none
/-- a byte -/
def byK (m : MV) (K : UInt8 → Option R) : Option R := gI .u8 m fun n => chk (isByte n) (K (UInt8.ofNat n.toNat))
def bysK : List MV → (List UInt8 → Option R) → Option R
  | [], K => K []
  | m :: r, K => byK m fun b => bysK r fun l => K (b :: l)
def rangeK (I : TI) (x : Slot) (K : Slot → Option R) : Option R := match x with
  | .sc (.p (.s l)) => bif I.isS then K (.box [.mp MS.it [.s l, .i .i64 0]]) else none
  | _ => none
/-- a text of a row of bytes -/
def byteK (c : Ctx) (st : St) (Y I : TI) (x : Slot) (K : Slot → Option R) : Option R := match c.tv Y.elem with
  | some E => bif I.isS && isU8 E then (match x with
    | .sc (.p (.list xs)) => bysK xs fun l => K (.sc (.p (.s l)))
    | .sc .nil => K (.sc (.p (.s [])))
    | .sc (.own f) => (match oget st.fams f with
      | some o => bif Nat.beq o.ty Y.elem then bysK o.xs fun l => K (.sc (.p (.s l))) else none
      | none => none)
    | _ => none) else none
  | none => none
/-- is it a load of what no one changes -/
def still (c : Ctx) (o : Oper) : Bool := match o.op, o.dst with
  | .load _ _, some d => nmem c.fl d
  | _, _ => false
def lkFams : List LK → List Nat
  | [] => []
  | .own f _ _ :: r => f :: lkFams r
  | _ :: r => lkFams r
def meets : List Nat → List Nat → Bool
  | [], _ => false
  | k :: r, l => bif nmem l k then true else meets r l
def tysOK (c : Ctx) : List LK → Bool
  | [] => true
  | .own _ ty _ :: r => (match c.tv ty with | some _ => tysOK c r | none => false)
  | _ :: r => tysOK c r
/-- may what is owned as g be handed on as f? each f has one g, each g one f (0: none yet) -/
def pairOK (ps : List (Nat × Nat)) (f g : Nat) : Bool := match ps with
  | [] => true
  | (a, b) :: r => (bif Nat.beq a f then Nat.beq b g && !Nat.beq g 0 else (bif Nat.beq b g then Nat.beq g 0 else true)) && pairOK r f g
def takeLK (st : St) (ps : List (Nat × Nat)) (k : LK) (l : Leaf) (K : MV → List (Nat × Nat) → Option R) : Option R :=
  match k, l with
  | .k .l, .nil => K (.list []) ps
  | .k .h, .hs x => K (.h x) ps
  | .k x, .p m => oLeaf x m fun _ => K m ps
  | .own f ty frz, .own g => match oget st.fams g with
    | some o => bif !Nat.beq o.ty ty || (o.frz && !frz) || nmem st.pfam g || !pairOK ps f (g + 1) then none else K (.list o.xs) ((f, g + 1) :: ps)
    | none => none
  | .own f _ _, .nil => bif pairOK ps f 0 then K (.list []) ((f, 0) :: ps) else none
  | _, _ => none
def takeLKs (st : St) : List (Nat × Nat) → List LK → List Leaf → (List MV → List (Nat × Nat) → Option R) → Option R
  | ps, [], [], K => K [] ps
  | ps, k :: ks, l :: ls, K => takeLK st ps k l fun m ps => takeLKs st ps ks ls fun ms ps => K (m :: ms) ps
  | _, _, _, _ => none
def giveLK (st : St) (k : LK) (m : MV) (K : Leaf → St → Option R) : Option R :=
  match k with
  | .k x => oLeaf x m fun l => K l st
  | .own f ty frz => gL m fun xs => (match st with | ⟨p, q, r, n⟩ => oset n f ⟨ty, frz, xs⟩ fun n => K (.own f) ⟨p, q, r, n⟩)
def giveLKs (st : St) : List LK → List MV → (List Leaf → List MV → St → Option R) → Option R
  | [], ms, K => K [] ms st
  | k :: ks, ms, K => gC ms fun m r => giveLK st k m fun l st => giveLKs st ks r fun ls ms st => K (l :: ls) ms st
/-! ### pointers to variables that are handed to functions -/
/-- without some families -/
def odelK (gs : List Nat) : List (Nat × Own) → (List (Nat × Own) → Option R) → Option R
  | [], K => K []
  | (k, o) :: r, K => bif nmem gs k then odelK gs r K else odelK gs r fun r => K ((k, o) :: r)
def kFrs : List Nat → Fr → (Fr → Option R) → Option R
  | [], r, K => K r
  | f :: fs, r, K => kFr f r fun r => kFrs fs r K
/-- the families that were taken -/
def famsOf : List (Nat × Nat) → List Nat
  | [] => []
  | (_, 0) :: r => famsOf r
  | (_, g + 1) :: r => g :: famsOf r
def anyIn : List Nat → List (Nat × Own) → Bool
  | [], _ => false
  | f :: r, m => (match oget m f with | some _ => true | none => anyIn r m)
/-- a variable comes back with other content -/
def backK (st : St) (root : Nat) (ks : List LK) (ps : List (Nat × Nat)) (outs : List MV) (K : St → Option R) : Option R :=
  giveLKs ⟨[], [], [], []⟩ ks outs fun cs rest st0 => gN rest <| odelK (famsOf ps) st.fams fun m =>
    bif anyIn (lkFams ks) m || meets (lkFams ks) st.pfam then none else
      kFrs (lkFams ks) st.fr fun r => fset r root (.box cs) fun r => (match app st0.fams m with | some m => K ⟨st.prot, st.pfam, r, m⟩ | none => none)
/-- a call that is handed a variable -/
def cellG (c : Ctx) (gv : Bool) (g : List MV → Option MV) (pos : Nat) (ks : List LK) (st : St) (ss : List Slot) (I : Option TI) (K : Slot → St → Option R) : Option R :=
  match ss[pos]? with
  | some (.ptr root off) => shSlots st (ss.take pos) fun m1 st => shSlots st (ss.drop (pos + 1)) fun m2 st =>
    (match fget st.fr root with
    | .box cs => bif isMp cs || nmem st.prot root || !tysOK c ks || !gv then none else takeLKs st [] ks cs fun ls ps =>
      (match app m1 (.cell (.func off ls) :: m2) with
      | some ms => bd (g ms) fun x => gW x fun r outs => backK st root ks ps outs fun st => (match I with
        | some I => openRes c I r fun s => K s st
        | none => K (.sc .un) st)
      | none => none)
    | _ => none)
  | _ => none
def cellK (c : Ctx) (key pos : Nat) (ks : List LK) (st : St) (ss : List Slot) (I : Option TI) (K : Slot → St → Option R) : Option R :=
  cellG c (c.gives key) (c.g key) pos ks st ss I K
def lkB : List LK → List LK → Bool
  | [], [] => true
  | .k k1 :: r, .k k2 :: q => kdB k1 k2 && lkB r q
  | .own f t z :: r, .own f' t' z' :: q => Nat.beq f f' && (Nat.beq t t' && (z == z' && lkB r q))
  | _, _ => false
/-- do all take the same -/
def sigsB (c : Ctx) (pos : Nat) (ks : List LK) : List Nat → Bool
  | [] => true
  | k :: r => (match c.sig k with | some sg => Nat.beq sg.1 pos && lkB sg.2 ks | none => false) && (c.gives k && sigsB c pos ks r)
/-- a call of a function that is told by a value, and handed a variable -/
def dynCK (c : Ctx) (cand : List Nat) (st : St) (f : Slot) (ss : List Slot) (I : Option TI) (K : Slot → St → Option R) : Option R := match f, cand with
  | .sc (.p m), k0 :: _ => (match c.sig k0 with
    | some sg => bif sigsB c sg.1 sg.2 cand then gFn m fun k caps => gN caps <| cellG c true (fun ms => exs cand k fun k => c.g k ms) sg.1 sg.2 st ss I K else none
    | none => none)
  | _, _ => none

def opK (c : Ctx) (o : Oper) (st : St) (K : Slot → St → Option R) : Option R :=
  match o.op with
  | .move x => K (evalO c st x) st
  | .assign x => assignK c o st x K
  | .makeMap t none => (match msOf c t with | some s => K (.box [.mp s []]) st | none => none)
  | .lookup t m k false => lookK c st t (evalO c st m) (evalO c st k) fun s => K s st
  | .mapUpdate t m k v => mputK c st t (evalO c st m) (evalO c st k) (evalO c st v) fun st => K (.sc .un) st
  | .mapEntry t m k => mentK c st t (evalO c st m) (evalO c st k) K
  | .entryStore t m i v => mstK c st t (evalO c st m) (evalO c st i) (evalO c st v) fun st => K (.sc .un) st
  | .nilCheck x => nilK (evalO c st x) fun s => K s st
  | .pick x a b => pickK (evalO c st x) (evalO c st a) (evalO c st b) fun s => K s st
  | .alloc t => (match c.tv t with | some I => K (.box I.zero) st | none => none)
  | .box t x => (match c.tv t with | some I => boxK I (evalO c st x) fun s => K s st | none => none)
  | .build t parts => (match c.tv t with
    | some I => bif I.st then (match buildF c st I parts.toList I.zero with | some cs => K (.ag cs) st | none => none)
      else (match I.lay with | [.h] => buildH c st parts.toList Hash.zero fun x => K (.sc (.hs x)) st | _ => none)
    | none => none)
  | .buildSlice t n parts => (match c.tv t with
    | some I => bif I.isL then (match c.tv I.elem with
      | some E => bif Nat.ble (n * E.size) 16777216 then elsK c st parts.toList 0 fun ms st => bif Nat.beq ms.length n then chk (wids E.size ms)
        (bif nmem c.bs (o.dst.getD 0) then K (.sc (.p (.list ms))) st else putFam st (o.dst.getD 0) ⟨I.elem, false, ms⟩ fun st => K (.sc (.own (o.dst.getD 0))) st) else none else none
      | none => none) else none
    | none => none)
  | .makeSlice t x y => (match c.tv t with
    | some I => bif I.isL then (match c.tv I.elem with | some E => mkslK (o.dst.getD 0) st I E (evalO c st x) (evalO c st y) K | none => none) else none
    | none => none)
  | .load t a => (match c.tv t with
    | some I => bif still c o then (match evalO c st a with | .rp cs off => ldLeaves I cs off fun s => K s st | _ => none) else ldK st I (evalO c st a) fun s => K s st
    | none => none)
  | .store t a v => (match c.tv t with | some I => stK st I (evalO c st a) (evalO c st v) fun st => K (.sc .un) st | none => none)
  | .binOp op t x y _ => binK (c.tv t) op (evalO c st x) (evalO c st y) fun s => K s st
  | .unOp op _ x => unK op (evalO c st x) fun s => K s st
  | .convert y t x => bif isLT c y then (match c.tv y, c.tv t with | some Y, some I => byteK c st Y I (evalO c st x) fun s => K s st | _, _ => none)
    else (match c.ti y, c.tv t with | some _, some I => convK I (c.fk t) (evalO c st x) fun s => K s st | _, _ => none)
  | .range t x => (match c.tv t with | some I => rangeK I (evalO c st x) fun s => K s st | none => none)
  | .next x true => itK st (evalO c st x) K
  | .makeFunc (.func f) first caps => (match first.toList with
    | [] => capsK c st caps.toList fun ms st => K (.sc (.p (.func (c.key f) ms))) st
    | _ => none)
  | .slice t x lo hi none => (match c.tv t with | some I => sliceK c I st (evalO c st x) (optEval c st lo) (optEval c st hi) K | none => none)
  | .slice t x none (some h) (some m) => (match c.tv t with | some I => clipK I (evalO c st x) (evalO c st h) (evalO c st m) fun s => K s st | none => none)
  | .fieldAddr t x f => (match c.tv t with | some I => fldAK st I f (evalO c st x) fun s => K s st | none => none)
  | .field t x f => (match c.tv t with | some I => fldK c I f (evalO c st x) fun s => K s st | none => none)
  | .indexAddr t x i => (match c.tv t with
    | some I => (match c.tv I.elem with | some E => ixAK c st I E (evalO c st x) (evalO c st i) fun s => K s st | none => none)
    | none => none)
  | .index t x i => (match c.tv t with | some I => ixK I (evalO c st x) (evalO c st i) fun s => K s st | none => none)
  | .extract x k => extK (evalO c st x) k fun s => K s st
  | .call cl => (match cl.callee with
    | .value (.func f) => (match c.sig (c.key f) with
      | some sg => cellK c (c.key f) sg.1 sg.2 st (evals c st cl.args.toList) (c.ti o.type) K
      | none => match c.ti o.type with
      | some I => argsK c (c.key f) st (evals c st cl.args.toList) fun ms st => callK c (o.dst.getD 0) st (c.key f) ms I K
      | none => none)
    | .value x => (match c.dyn with
      | _ :: _ => dynCK c c.dyn st (evalO c st x) (evals c st cl.args.toList) (c.ti o.type) K
      | [] => match c.ti o.type with
      | some I => callDyn c st I (evalO c st x) (evals c st cl.args.toList) K
      | none => none)
    | .builtin .len => (match cl.argTypes.toList with
      | [t] => (match c.tv t with | some I => lenK I st (evals c st cl.args.toList) fun s => K s st | none => none)
      | _ => none)
    | .builtin .append => (match evals c st cl.args.toList, cl.argTypes.toList with
      | [s, x], [t, t'] => (match c.tv t with
        | some I => bif I.isL then (match c.tv I.elem with
          | some E => bif Nat.beq t t' then elemsK I E st x fun ys => appK (o.dst.getD 0) st I E s ys K else elemsS c t' E x fun ys => appK (o.dst.getD 0) st I E s ys K
          | none => none) else none
        | none => none)
      | _, _ => none)
    | .builtin .real => (match evals c st cl.args.toList with | [.sc (.p m)] => gCx m fun x _ => K (.sc (.p (.raw (.float .f64 x)))) st | _ => none)
    | .builtin .imag => (match evals c st cl.args.toList with | [.sc (.p m)] => gCx m fun _ y => K (.sc (.p (.raw (.float .f64 y)))) st | _ => none)
    | .builtin .complex => (match evals c st cl.args.toList with | [.sc (.p (.raw (.float .f64 x))), .sc (.p (.raw (.float .f64 y)))] => K (.sc (.p (.raw (.complex .f64 x y)))) st | _ => none)
    | .builtin .min => (match minK false (evals c st cl.args.toList) with | some m => K (.sc (.p m)) st | none => none)
    | .builtin .max => (match minK true (evals c st cl.args.toList) with | some m => K (.sc (.p m)) st | none => none)
    | _ => none)
  | _ => none

/-- is it done, by its guard? the guard's slot is known from then on -/
def guardK (all : List Oper) (o : Oper) (st : St) (K : Bool → St → Option R) : Option R :=
  match o.guard with
  | none => K true st
  | some (j, want) => match all[j]? with
    | some p => (match p.dst with
      | some t => (match fget st.fr t with
        | .sc (.p (.b v)) => (match v with
          | true => (match st with | ⟨p, q, r, m⟩ => fset r t (.sc (.p (.b true))) fun r => K want ⟨p, q, r, m⟩)
          | false => (match st with | ⟨p, q, r, m⟩ => fset r t (.sc (.p (.b false))) fun r => K (!want) ⟨p, q, r, m⟩))
        | .skip => K false st
        | _ => none)
      | none => none)
    | none => none
def stepK (c : Ctx) (all : List Oper) (o : Oper) (st : St) (K : St → Option R) : Option R :=
  guardK all o st fun go st =>
      bif go then opK c o st fun s st => setDst c st o.dst s K
      else setDst c st o.dst .skip K
def opsK (c : Ctx) (all : List Oper) : List Oper → St → (St → Option R) → Option R
  | [], st, K => K st
  | o :: r, st, K => stepK c all o st fun st => opsK c all r st K
end

section
variable {R : Type}
/-- the values of slots, to be handed on -/
def takeO (st : St) : List (Nat × Nat) → List (Nat × OK) → (List MV → Option R) → Option R
  | _, [], K => K []
  | ps, (t, k) :: r, K => match k, fget st.fr t with
    | .sc k, .sc l => takeLKs st ps [k] [l] fun ms ps => takeO st ps r fun ns => (match app ms ns with | some l => K l | none => none)
    | .ag ks, .ag ls => takeLKs st ps ks ls fun ms ps => takeO st ps r fun ns => (match app ms ns with | some l => K l | none => none)
    | .box ks, .box ls => takeLKs st ps ks ls fun ms ps => takeO st ps r fun ns => (match app ms ns with | some l => K l | none => none)
    | .mp s, .box [.mp s' es] => bif msB s s' then takeO st ps r fun ns => K (.list es :: ns) else none
    | .pt root off, .ptr root' off' => bif Nat.beq root root' && (Nat.beq off off' && (!psB root && boxB (fget st.fr root))) then takeO st ps r K else none
    | _, _ => none
def upFr (st : St) (t : Nat) (s : Slot) (K : St → Option R) : Option R := match st with | ⟨p, q, r, m⟩ => fset r t s fun r => K ⟨p, q, r, m⟩
/-- pointers, behind all else -/
def ptsK : List (Nat × OK) → List MV → St → (St → Option R) → Option R
  | [], ms, st, K => gN ms (K st)
  | (t, k) :: r, ms, st, K => match k, st with
    | .pt root off, ⟨p, q, fr, m⟩ => bif !psB root && (boxB (fget fr root) && !isBox (fget fr t)) then fset fr t (.ptr root off) fun fr => ptsK r ms ⟨p, q, fr, m⟩ K else none
    | _, _ => none
def giveO (st : St) : List (Nat × OK) → List MV → (St → Option R) → Option R
  | [], ms, K => gN ms (K st)
  | (t, k) :: r, ms, K => match k with
    | .sc k => giveLKs st [k] ms fun ls ms st => (match ls with | [l] => upFr st t (.sc l) fun st => giveO st r ms K | _ => none)
    | .ag ks => giveLKs st ks ms fun ls ms st => upFr st t (.ag ls) fun st => giveO st r ms K
    | .box ks => bif psB t && !nmem st.prot (posOf t) then none else giveLKs st ks ms fun ls ms st => upFr st t (.box ls) fun st => giveO st r ms K
    | .mp s => bif psB t then none else gC ms fun m ms => gL m fun es => upFr st t (.box [.mp s es]) fun st => giveO st r ms K
    | .pt root off => ptsK ((t, .pt root off) :: r) ms st K
end

def outKeys : List (Nat × OK) → List Nat
  | [] => []
  | (t, _) :: r => t :: outKeys r
def outFams : List (Nat × OK) → List Nat
  | [] => []
  | (_, .sc k) :: r => lkFams [k] ++ outFams r
  | (_, .ag ks) :: r => lkFams ks ++ outFams r
  | (_, .box ks) :: r => lkFams ks ++ outFams r
  | (_, .mp _) :: r => outFams r
  | (_, .pt _ _) :: r => outFams r
def minus : List Nat → List Nat → List Nat
  | [], _ => []
  | k :: r, l => bif nmem l k then minus r l else k :: minus r l
/-- leaves of other families than these hold no longer -/
def nLeaves {R : Type} (ps : List Nat) : List Leaf → (List Leaf → Option R) → Option R
  | [], K => K []
  | l :: r, K => (match l with
    | .own g => bif nmem ps g then nLeaves ps r fun r => K (.own g :: r) else nLeaves ps r fun r => K (.un :: r)
    | l => nLeaves ps r fun r => K (l :: r))
def nSlot {R : Type} (ps : List Nat) (s : Slot) (K : Slot → Option R) : Option R := match s with
  | .sc (.own g) => bif nmem ps g then K (.sc (.own g)) else K (.sc .un)
  | .ag cs => nLeaves ps cs fun cs => K (.ag cs)
  | .box cs => nLeaves ps cs fun cs => K (.box cs)
  | s => K s
def nFr {R : Type} (ps : List Nat) : Fr → (Fr → Option R) → Option R
  | [], K => K []
  | (k, s) :: r, K => nSlot ps s fun s => nFr ps r fun r => K ((k, s) :: r)
/-- the families of some names; some of them are shared from now on -/
def pickF {R : Type} (ks fs qs : List Nat) : List (Nat × Own) → (List (Nat × Own) → Option R) → Option R
  | [], K => K []
  | (k, o) :: r, K => bif nmem ks k then pickF ks fs qs r fun r => (bif nmem fs k && !nmem qs k then K ((k, ⟨o.ty, true, o.xs⟩) :: r) else K ((k, o) :: r)) else pickF ks fs qs r K
/-- what a piece of code begins with, whose ways meet again; and what stands behind it, but for what it hands on -/
def outTys (c : Ctx) : List (Nat × OK) → Bool
  | [] => true
  | (_, .sc k) :: r => bif tysOK c [k] then outTys c r else false
  | (_, .ag ks) :: r => bif tysOK c ks then outTys c r else false
  | (_, .box ks) :: r => bif tysOK c ks then outTys c r else false
  | (_, .mp _) :: r => outTys c r
  | (_, .pt _ _) :: r => outTys c r
def begin0 {R : Type} (c : Ctx) (h : Hint) (st : St) (K : St → St → Option R) : Option R :=
  match st with
  | ⟨p, q, r, m⟩ =>
    bif !outTys c h.all || meets (outKeys h.all) p || meets (outFams h.all) q || meets (outKeys h.all) h.prot || meets (outFams h.all) h.pfam then none else
    match app h.prot p, app h.pfam q with
    | some p', some q' =>
      pick h.prot r fun rp => nFr h.pfam rp fun rp => pick (outKeys h.all) r fun ro =>
      pickF h.pfam h.frz q m fun mp => pickF (outFams h.all) h.frz q m fun mo =>
      (match app rp ro, app mp mo with
       | some r1, some m1 => K ⟨p', q', r1, m1⟩ ⟨p', q', rp, mp⟩
       | _, _ => none)
    | _, _ => none
/-- and pointers to what is still there -/
def begin_ {R : Type} (c : Ctx) (h : Hint) (st : St) (K : St → St → Option R) : Option R :=
  begin0 c h st fun st1 st2 => backP (fun t => nmem h.prot t || nmem (outKeys h.all) t) st.fr st.fr st1.fr fun fr => K ⟨st1.prot, st1.pfam, fr, st1.fams⟩ st2
/-- the marks of what is protected, as they were -/
def after_ (st st2 : St) : St := match st, st2 with | ⟨p, q, _, _⟩, ⟨_, _, r, m⟩ => ⟨p, q, r, m⟩

def guarded : List Oper → Bool
  | [] => false
  | o :: r => match o.guard with | some _ => true | none => guarded r

/-- the slots that come to hold a variable -/
def boxDsts : List Oper → List Nat
  | [] => []
  | o :: r => match o.op, o.dst with
    | .alloc _, some d => d :: boxDsts r
    | .box _ _, some d => d :: boxDsts r
    | .makeMap _ _, some d => d :: boxDsts r
    | .range _ _, some d => d :: boxDsts r
    | _, _ => boxDsts r
def dropSt {R : Type} (ds : List Nat) (st : St) (K : St → Option R) : Option R := match st with | ⟨p, q, r, m⟩ => dropPtrs ds r fun r1 => backP (fun t => !nmem ds t) r r r1 fun r => K ⟨p, q, r, m⟩
def firstReg : Code → Option Nat
  | .region id _ _ => some id
  | .seq a b => match firstReg a with | some n => some n | none => firstReg b
  | .cond _ a b => match firstReg a with | some n => some n | none => firstReg b
  | .block _ b | .loop b | .scope b => firstReg b
  | _ => none
def uni : List Nat → List Nat → List Nat
  | [], l => l
  | k :: r, l => bif nmem l k then uni r l else k :: uni r l
/-- the exits of code: 0 it goes on, 1 it returns, n + 2 it leaves block n -/
def exitsC : Code → List Nat
  | .skip | .region _ _ _ => [0]
  | .seq a b => bif nmem (exitsC a) 0 then uni (minus (exitsC a) [0]) (exitsC b) else exitsC a
  | .cond _ a b => uni (exitsC a) (exitsC b)
  | .block id b => bif nmem (exitsC b) (id + 2) then uni (minus (exitsC b) [0, id + 2]) [0] else exitsC b
  | .loop b => minus (exitsC b) [0]
  | .exit id => [id + 2]
  | .ret => [1]
  | _ => []

/-- operations that change no memory; that look at it; that only lay new blocks -/
def isLd (o : Oper) : Bool := match o.op with
  | .load _ _ => true
  | .lookup _ _ _ false => true
  | _ => false
/-- and those that look at a row of bytes -/
def isLr (c : Ctx) (o : Oper) : Bool := isLd o || (match o.op with
  | .convert y _ _ => isLT c y
  | _ => false)
/-- the type of a map that is looked at; that comes to have an entry more -/
def lkTy (o : Oper) : Option Nat := match o.op with
  | .lookup t _ _ false => some t
  | _ => none
def meTy (o : Oper) : Option Nat := match o.op with
  | .mapEntry t _ _ => some t
  | _ => none
def entOK (o p : Oper) : Bool := match lkTy o, meTy p with
  | some t, some t' => Nat.beq t t'
  | _, _ => false
def isRd (o : Oper) : Bool := match o.op with
  | .move _ | .assign _ | .nilCheck _ | .pick _ _ _ | .build _ _ | .load _ _ | .binOp _ _ _ _ _ | .unOp _ _ _ | .convert _ _ _ | .makeFunc _ _ _ | .slice _ _ _ _ _ | .fieldAddr _ _ _ | .field _ _ _ | .indexAddr _ _ _ | .index _ _ _ | .extract _ _ | .lookup _ _ _ false => true
  | .call cl => (match cl.callee with | .builtin .len | .builtin .min | .builtin .max | .builtin .real | .builtin .imag | .builtin .complex => true | _ => false)
  | _ => false
def isGr (c : Ctx) (o : Oper) : Bool := match o.op with
  | .alloc _ | .box _ _ | .buildSlice _ _ _ | .makeSlice _ _ _ => true
  | .call cl => (match cl.callee with | .value (.func f) => !c.gives (c.key f) | .value _ => (match c.dyn with | [] => true | _ :: _ => false) | _ => false)
  | _ => false
/-- what an operation looks at, as lists -/
def opndsL : Op → List Operand
  | .build _ ps => ps.toList.map (·.2)
  | .buildSlice _ _ ps => ps.toList.map (·.2)
  | .makeFunc _ first captured => first.toList ++ captured.toList
  | .slice _ x l h m => x :: (l.toList ++ (h.toList ++ m.toList))
  | .call c => (match c.callee with | .value f => [f] | .invoke r _ => [r] | .builtin _ => []) ++ c.args.toList
  | op => op.operands.toList
def tmpsL : List Operand → List Nat
  | [] => []
  | .tmp t :: r => t :: tmpsL r
  | _ :: r => tmpsL r
def looksL (ops : List Oper) (o : Oper) : List Nat :=
  tmpsL (opndsL o.op) ++ (match o.guard with | some (g, _) => (match ops[g]? with | some p => p.dst.toList | none => []) | none => [])
def apartL (ops : List Oper) (x y : Oper) : Bool :=
  (match x.dst with | some d => !nmem (looksL ops y) d && (match y.dst with | some d' => !Nat.beq d' d | none => true) | none => true) &&
  (match y.dst with | some d => !nmem (looksL ops x) d | none => true)
/-- has an operation an edge to another -/
def bindsB (e : Edge) : Bool := match e.ground with
  | .textOnly _ => false
  | .gcOnly _ => false
  | _ => true
def edgeTo (o : Oper) (p : Nat → Bool) : Bool := o.after.toList.any fun e => bindsB e && p e.on
def noSel (ops : List Oper) : Bool := ops.all fun o => match o.op with | .select _ _ => false | _ => true
def grAt (c : Ctx) (o : Oper) : Bool := isRd o || isGr c o
/-- what is not behind an operation may be done ahead of it -/
def freeRest (c : Ctx) (ops : List Oper) (o : Oper) : List Nat → List Nat → Bool
  | _, [] => true
  | D, y :: r => match ops[y]? with
    | some p => bif edgeTo p (nmem D) then freeRest c ops o (y :: D) r else apartL ops o p && (!isLr c o || grAt c p || still c o || entOK o p) && freeRest c ops o D r
    | none => false
/-- a new variable, that waits for nothing -/
def isAl (o : Oper) : Bool := match o.op, o.dst, o.guard with
  | .alloc _, some _, none => o.after.toList.all fun e => !bindsB e
  | _, _, _ => false
def alTv (c : Ctx) (o : Oper) : Bool := match o.op with
  | .alloc t => (match c.tv t with | some _ => true | none => false)
  | _ => false
def alAt (ops : List Oper) (i : Nat) : Bool := match ops[i]? with
  | some o => isAl o
  | none => false
/-- the rest of an order, behind some operations -/
def drawFrom (c : Ctx) (ops : List Oper) : List Nat → List Nat → Bool
  | _, [] => true
  | pre, x :: rest => (match ops[x]? with
    | some o => (o.after.toList.all fun e => !bindsB e || nmem pre e.on) && !nmem pre x && !nmem rest x &&
      (bif isRd o && !mvAs c o then freeRest c ops o [x] rest
        else (rest.all fun y => match ops[y]? with
          | some p => bif isAl p then apartL ops p o && alTv c p else edgeTo p (fun i => Nat.beq i x || (nmem rest i && !alAt ops i))
          | none => false)) && drawFrom c ops (x :: pre) rest
    | none => false)
/-- may a region's operations be looked at in this order, in whatever order they are done -/
def drawOK (c : Ctx) (ops : Array Oper) (ord : List Nat) : Bool :=
  noSel ops.toList && Nat.beq ord.length ops.toList.length && (List.range ops.toList.length).all (nmem ord) && drawFrom c ops.toList [] ord
/-- operations in some order: all of a region's -/
def regionL {R : Type} (c : Ctx) (id : Nat) (ops l : List Oper) (st : St) (K : St → Option R) : Option R :=
  bif guarded ops then
    begin_ c (c.reg id) st fun st1 st2 => bd (dropSt (boxDsts ops) st1 fun st1 => opsK c ops l st1 fun st => takeO st [] ((c.reg id).ex 0) some) fun vs => giveO (after_ st st2) ((c.reg id).ex 0) vs K
  else dropSt (boxDsts ops) st fun st => opsK c ops l st K
def pickOps (ops : List Oper) : List Nat → Option (List Oper)
  | [] => some []
  | i :: r => match ops[i]?, pickOps ops r with
    | some o, some l => some (o :: l)
    | _, _ => none
/-! ### slices.DeleteFunc -/
/-- one step after the other: those that stay, and the state -/
def delF {S : Type} (step : S → MV → Option (Bool × S)) : S → List MV → Option (List MV × S)
  | s, [] => some ([], s)
  | s, x :: xs => match step s x with
    | some (b, s1) => (match delF step s1 xs with | some (ys, s2) => some (bif b then ys else x :: ys, s2) | none => none)
    | none => none
/-- a function that is handed on; one that changes a variable of its maker's -/
def stepP (g : Nat → List MV → Option MV) (k : Nat) (caps : List MV) : Unit → MV → Option (Bool × Unit) := fun _ x => match g k (x :: caps) with
  | some (.b b) => some (b, ())
  | _ => none
def stepC (g : Nat → List MV → Option MV) (k : Nat) (caps : List MV) : List MV → MV → Option (Bool × List MV) := fun ls x => match g k (x :: (caps ++ [.cell (.func 0 ls)])) with
  | some (.wback (.b b) outs) => some (b, outs)
  | _ => none
def aggB : MV → Bool
  | .agg _ => true
  | _ => false
/-- a call of slices.DeleteFunc -/
def delpK {R : Type} (c : Ctx) (h f : Nat) (caps : List Operand) (x : Operand) (o1 o2 : Oper) (st : St) (K : St → Option R) : Option R :=
  let fin (ys : List MV) (st : St) : Option R := putFam st (o2.dst.getD 0) ⟨c.fty (c.key h), false, ys⟩ fun st => setDst c st o2.dst (.sc (.own (o2.dst.getD 0))) fun st => setDst c st o1.dst (.sc .un) K
  match c.sig (c.key f) with
  | none => bif c.gives (c.key f) then none else capsK c st caps fun ms st => giveK c (c.key h) st (evalO c st x) fun m st => gF m fun xs => chk (xs.all aggB) <| bd (delF (stepP c.g (c.key f) ms) () xs) fun p => fin p.1 st
  | some sg => capsK c st caps.dropLast fun ms st => giveK c (c.key h) st (evalO c st x) fun m st => gF m fun xs => chk (xs.all aggB) <|
    (match caps.getLast? with
    | some y => (match evalO c st y with
      | .ptr root 0 => (match fget st.fr root with
        | .box cs => bif isMp cs || nmem st.prot root || !tysOK c sg.2 || !Nat.beq sg.1 (ms.length + 1) || !c.gives (c.key f) then none else
          takeLKs st [] sg.2 cs fun ls ps => bd (delF (stepC c.g (c.key f) ms) ls xs) fun p => backK st root sg.2 ps p.2 fun st => fin p.1 st
        | _ => none)
      | _ => none)
    | none => none)
/-- the operations ahead of a function's making and its call by slices.DeleteFunc; what is made, what is called; the two; those behind -/
def delAt (c : Ctx) : List Oper → List Oper → Option (List Oper × Nat × List Operand × Nat × Operand × Oper × Oper × List Oper)
  | pre, o1 :: o2 :: r => match o1.op, o2.op with
    | .makeFunc (.func f) first caps, .call cl => (match cl.callee, cl.args.toList, first.toList, o1.dst with
      | .value (.func h), [.tmp x, .tmp y], [], some d => bif c.dels h && Nat.beq y d && !Nat.beq x d && !Nat.ble c.n d && !Nat.beq (o2.dst.getD d) d then some (pre.reverse, f, caps.toList, h, .tmp x, o1, o2, r) else delAt c (o1 :: pre) (o2 :: r)
      | _, _, _, _ => delAt c (o1 :: pre) (o2 :: r))
    | _, _ => delAt c (o1 :: pre) (o2 :: r)
  | _, _ => none
def plainB : List Oper → Bool
  | [] => true
  | o :: r => (match o.guard with | none => plainB r | some _ => false)
/-- a region in the order of its text -/
def textK {R : Type} (c : Ctx) (id : Nat) (ops : List Oper) (st : St) (K : St → Option R) : Option R :=
  match delAt c [] ops with
  | some (pre, f, caps, h, x, o1, o2, post) => bif plainB ops then dropSt (boxDsts ops) st fun st => opsK c ops pre st fun st => delpK c h f caps x o1 o2 st fun st => opsK c ops post st K else none
  | none => regionL c id ops ops st K
/-- variables that are changed no more -/
def fzK {R : Type} (c : Ctx) (ts : List Nat) (st : St) (K : St → Option R) : Option R := match ts with
  | [] => K st
  | ts => capsK c st (ts.map .tmp) fun _ st => K st
/-- an edge more: A ahead of B -/
def addE (ops : Array Oper) (A B : Nat) : Array Oper := ops.modify B fun o => { o with after := o.after.push ⟨A, .data⟩ }
open Classical in
/-- where two ways yield the same -/
noncomputable def both {R : Type} (x y : Option R) : Option R := if x = y then x else none
/-- orders where operations may be done either way round: an order, those behind it, and the two -/
def twoOf (n : Nat) (l : List Nat) : Option (List Nat × List Nat × Nat × Nat) := match l.drop (l.length - 2) with
  | [A, B] => bif Nat.beq A B || (Nat.ble n A || Nat.ble n B) then none else some (l.take n, (l.drop n).take (l.length - 2 - n), A, B)
  | _ => none
/-- operations in an order in which they may be looked at -/
def leafK {R : Type} (c : Ctx) (ops : Array Oper) (l : List Nat) (st : St) (K : St → Option R) : Option R := bif drawOK c ops l then (match pickOps ops.toList l with
  | some l => opsK c ops.toList l st K
  | none => none) else none
noncomputable def treeK {R : Type} (c : Ctx) (st : St) (K : St → Option R) : Nat → Array Oper → List Nat → Option R
  | 0, _, _ => none
  | k + 1, ops, l => bif Nat.beq l.length ops.toList.length then leafK c ops l st K else (match twoOf ops.toList.length l with
    | some (o1, o2, A, B) => both (leafK c (addE ops A B) o1 st K) (treeK c st K k (addE ops B A) o2)
    | none => none)
noncomputable def twoK {R : Type} (c : Ctx) (ops : Array Oper) (ord : List Nat) (st : St) (K : St → Option R) : Option R :=
  bif guarded ops.toList then none else dropSt (boxDsts ops.toList) st fun st => treeK c st K ord.length ops ord
noncomputable def regionK {R : Type} (c : Ctx) (id : Nat) (ops : Array Oper) (draw : Bool) (st : St) (K : St → Option R) : Option R :=
  fzK c (c.fz id) st fun st => bif draw then (bif !Nat.beq (c.ord id).length ops.toList.length then twoK c ops (c.ord id) st K else bif drawOK c ops (c.ord id) then (match pickOps ops.toList (c.ord id) with | some l => regionL c id ops.toList l st K | none => none) else none)
  else textK c id ops.toList st K

noncomputable def codeK (c : Ctx) : Code → (R : Type) → St → (Nat → St → Option R) → Option R
  | .skip, _, st, K => K 0 st
  | .region id ops d, _, st, K => regionK c id ops d st fun st => K 0 st
  | .seq a b, R, st, K => codeK c a R st fun e st => bif Nat.beq e 0 then codeK c b R st K else K e st
  | .cond x a b, R, st, K => (match evalO c st x with
    | .sc (.p (.b v)) =>
      bif nmem (exitsC a) 0 && nmem (exitsC b) 0 then
        begin_ c (c.cnd ((firstReg (.seq a b)).getD 0)) st fun st1 st2 =>
        bd (ifB v (codeK c a (Nat × List MV) st1 fun e st => takeO st [] ((c.cnd ((firstReg (.seq a b)).getD 0)).ex e) fun vs => some (e, vs))
              (codeK c b (Nat × List MV) st1 fun e st => takeO st [] ((c.cnd ((firstReg (.seq a b)).getD 0)).ex e) fun vs => some (e, vs)))
          fun r => exs (uni (exitsC a) (exitsC b)) r.1 fun e => giveO (after_ st st2) ((c.cnd ((firstReg (.seq a b)).getD 0)).ex e) r.2 fun st => K e st
      else ifB v (codeK c a R st K) (codeK c b R st K)
    | _ => none)
  | .block id b, R, st, K => codeK c b R st fun e st => bif Nat.beq e (id + 2) then K 0 st else K e st
  | .loop b, _, st, K =>
    begin_ c (c.lop ((firstReg b).getD 0)) st fun st1 st2 => takeO st1 [] (c.lop ((firstReg b).getD 0)).outs fun vs =>
      bd (Loop (fun ms => giveO st2 (c.lop ((firstReg b).getD 0)).outs ms fun st => codeK c b (Sum (List MV) (Nat × List MV)) st fun e st =>
          bif Nat.beq e 0 then takeO st [] (c.lop ((firstReg b).getD 0)).outs fun vs => some (.inl vs) else takeO st [] ((c.lop ((firstReg b).getD 0)).ex e) fun vs => some (.inr (e, vs))) vs)
        fun r => exs (minus (exitsC b) [0]) r.1 fun e => giveO (after_ st st2) ((c.lop ((firstReg b).getD 0)).ex e) r.2 fun st => K e st
  | .exit id, _, st, K => K (id + 2) st
  | .ret, _, st, K => K 1 st
  | _, _, _, _ => none

/-- the frame that a function begins with -/
def entryK {R : Type} (c : Ctx) : List Nat → Nat → List MV → (Fr → List MV → Option R) → Option R
  | [], _, ms, K => K [] ms
  | t :: ts, n, ms, K => match c.tv t with
    | some I => gC ms fun m r => openV I m fun s => entryK c ts (n + 1) r fun fr ms => K ((n, s) :: fr) ms
    | none => none
/-- captured variables: pointers to what no one changes -/
def capK {R : Type} : List (List Kd) → Nat → List MV → (Fr → Option R) → Option R
  | [], _, ms, K => gN ms (K [])
  | ks :: r, n, ms, K => gC ms fun m ms => gP m fun cs => oLeaves ks cs fun cs => capK r (n + 1) ms fun fr => K ((n, .fbox cs) :: fr)
def resK {R : Type} (c : Ctx) (st : St) (fresh : Option Nat) : List ResultVar → (List MV → Option R) → Option R
  | [], K => K []
  | r :: rs, K =>
    let go (s : Slot) : Option R := match fresh with
      | some ty => (match s with
        | .sc (.own f) => (match oget st.fams f with | some o => bif o.frz || !Nat.beq o.ty ty then none else resK c st fresh rs fun ms => K (.fresh o.xs :: ms) | none => none)
        | .sc .nil => resK c st fresh rs fun ms => K (.fresh [] :: ms)
        | _ => none)
      | none => shSlot st s fun m st => resK c st fresh rs fun ms => K (m :: ms)
    match r with
    | .tmp t => go (fget st.fr t)
    | .cell a t => match c.tv t, fget st.fr a with
      | some I, .box cs => bif isMp cs || psB a then none else ldLeaves I cs 0 fun s => go s
      | _, _ => none
/-- a function's body, by some reading of code -/
noncomputable def bodyG (X : Code → St → (Nat → St → Option MV) → Option MV) (c : Ctx) (caps : List (List Kd)) (fresh : Option Nat) (f : Func) (args : List MV) : Option MV :=
  match f.body with
  | some b => entryK c f.params.toList 0 args fun fr ms => capK caps f.params.size ms fun fr' =>
      match app fr fr' with
      | some fr => X b ⟨[], [], fr, []⟩ fun e st =>
        bif Nat.ble e 1 then resK c st fresh f.results.toList fun ms => (match ms with | [m] => some m | ms => some (.tup ms)) else none
      | none => none
  | none => none
noncomputable def bodyK (c : Ctx) (caps : List (List Kd)) (fresh : Option Nat) (f : Func) (args : List MV) : Option MV := bodyG (fun b st K => codeK c b MV st K) c caps fresh f args

end Dn
/-
  What abstract values and slots say of Go's memory. Conditions: none.
-/
namespace Dn
open Go

theorem heapNew (w : World) (o : Obj) : (w.alloc o).heap[w.heap.size]? = some o := by
  show (w.heap.push o)[w.heap.size]? = some o
  simp
theorem heapOld (w : World) (o : Obj) (i : Nat) (h : i < w.heap.size) : (w.alloc o).heap[i]? = w.heap[i]? := by
  show (w.heap.push o)[i]? = w.heap[i]?
  rw [Array.getElem?_push, if_neg (Nat.ne_of_lt h)]
/-- a value of one cell -/
def MV.one : MV → Bool
  | .h _ | .agg _ | .tup _ | .fresh _ | .cell _ | .wback _ _ => false
  | _ => true

/-- memory that no one changes: what lies in a block at an offset -/
abbrev Ph := Nat → Nat → Option Value

section
variable (key : Nat → Nat) (φ : Ph)
mutual
inductive Rep : List Value → MV → Prop
  | b (x : Bool) : Rep [.bool x] (.b x)
  | i (k : IntKind) (n : Int) : Rep [.int k n] (.i k n)
  | s (bs : ByteArray) : Rep [.string bs] (.s bs.data.toList)
  | h (x : Hash) : Rep (x.l.map fun b => .int .u8 (b.toNat : Int)) (.h x)
  | raw (v : Value) : v.oneCell' = true → Rep [v] (.raw v)
  | list (a : Option Addr) (cap : Nat) (xs : List MV) (blk off esz : Nat) (f : Nat → List Value) :
      xs.length ≤ cap → (0 < xs.length → a = some ⟨blk, off, none⟩) → (∀ i, i < xs.length → (f i).length = esz) →
      (∀ i j, i < xs.length → j < esz → φ blk (off + i * esz + j) = (f i)[j]?) →
      (∀ (i : Nat) (h : i < xs.length), Rep (f i) xs[i]) → Rep [.slice a xs.length cap] (.list xs)
  | agg (vs : List Value) (ms : List MV) : RepL vs ms → Rep vs (.agg ms)
  | func (f k : Nat) (cap : Array Value) (ms : List MV) : key f = k → RepL cap.toList ms → (∀ m ∈ ms, m.one = true) → Rep [.func (.func f) #[] cap] (.func k ms)
  | rp (blk off : Nat) (vs : List Value) (ms : List MV) : RepL vs ms → (∀ j, j < vs.length → φ blk (off + j) = vs[j]?) → Rep [.pointer (some ⟨blk, off, none⟩)] (.rp ms)
  | clip (a : Option Addr) (xs : List MV) : Rep [.slice a xs.length xs.length] (.list xs) → Rep [.slice a xs.length xs.length] (.clip xs)
inductive RepL : List Value → List MV → Prop
  | nil : RepL [] []
  | cons (v : List Value) (m : MV) (vs : List Value) (ms : List MV) : Rep v m → RepL vs ms → RepL (v ++ vs) (m :: ms)
end
end

/-- more is known of memory that no one changes -/
def PhLe (φ φ' : Ph) : Prop := ∀ b o v, φ b o = some v → φ' b o = some v

theorem PhLe.refl (φ : Ph) : PhLe φ φ := fun _ _ _ h => h
theorem PhLe.some_of {φ φ' : Ph} (h : PhLe φ φ') {b j : Nat} {cs : List Value} (e : φ b j = cs[j]?) (hj : j < cs.length) : φ' b j = cs[j]? := by
  rw [List.getElem?_eq_getElem hj] at e ⊢
  exact h _ _ _ e
theorem PhLe.trans {φ φ' φ'' : Ph} (h : PhLe φ φ') (h' : PhLe φ' φ'') : PhLe φ φ'' := fun b o v e => h' b o v (h b o v e)

section
set_option linter.unusedSectionVars false
variable {key : Nat → Nat} {φ φ' : Ph} (hle : PhLe φ φ')
include hle
theorem ph_get {b o : Nat} {vs : List Value} {j : Nat} (hj : j < vs.length) (h : φ b o = vs[j]?) : φ' b o = vs[j]? := by
  rw [List.getElem?_eq_getElem hj] at h ⊢
  exact hle _ _ _ h
mutual
theorem Rep.mono {vs : List Value} {m : MV} : Rep key φ vs m → Rep key φ' vs m
  | .b x => .b x
  | .i k n => .i k n
  | .s bs => .s bs
  | .h x => .h x
  | .raw v h => .raw v h
  | .list a cap xs blk off esz f h1 h2 h3 h4 h5 => .list a cap xs blk off esz f h1 h2 h3
      (fun i j hi hj => ph_get hle (by rw [h3 i hi]; exact hj) (h4 i j hi hj)) (fun i hi => (h5 i hi).mono)
  | .agg vs ms h => .agg vs ms h.mono
  | .func f k cap ms h1 h2 h3 => .func f k cap ms h1 h2.mono h3
  | .rp blk off vs ms h1 h2 => .rp blk off vs ms h1.mono (fun j hj => ph_get hle hj (h2 j hj))
  | .clip a xs h => .clip a xs h.mono
theorem RepL.mono {vs : List Value} {ms : List MV} : RepL key φ vs ms → RepL key φ' vs ms
  | .nil => .nil
  | .cons v m vs ms h1 h2 => .cons v m vs ms h1.mono h2.mono
end
end

section
variable {key : Nat → Nat} {φ : Ph}
mutual
theorem Rep.cells {vs : List Value} {m : MV} : Rep key φ vs m → ∀ v ∈ vs, v.oneCell' = true
  | .b x => by simp [Value.oneCell']
  | .i k n => by simp [Value.oneCell']
  | .s bs => by simp [Value.oneCell']
  | .h x => by
    intro v hv
    obtain ⟨b, _, rfl⟩ := List.mem_map.1 hv
    rfl
  | .raw v h => by simpa using h
  | .list .. => by simp [Value.oneCell']
  | .agg vs ms h => h.cells
  | .func .. => by simp [Value.oneCell']
  | .rp .. => by simp [Value.oneCell']
  | .clip .. => by simp [Value.oneCell']
theorem RepL.cells {vs : List Value} {ms : List MV} : RepL key φ vs ms → ∀ v ∈ vs, v.oneCell' = true
  | .nil => by simp
  | .cons v m vs ms h1 h2 => by
    intro x hx
    rcases List.mem_append.1 hx with hx | hx
    · exact h1.cells x hx
    · exact h2.cells x hx
end
end

section
variable {key : Nat → Nat} {φ : Ph}
mutual
theorem Rep.width {vs : List Value} {m : MV} : Rep key φ vs m → vs.length = m.w
  | .b x => by simp [MV.w]
  | .i k n => by simp [MV.w]
  | .s bs => by simp [MV.w]
  | .h x => by simp [MV.w, x.h]
  | .raw v h => by simp [MV.w]
  | .list .. => by simp [MV.w]
  | .agg vs ms h => by rw [h.width]; simp [MV.w]
  | .func .. => by simp [MV.w]
  | .rp .. => by simp [MV.w]
  | .clip .. => by simp [MV.w]
theorem RepL.width {vs : List Value} {ms : List MV} : RepL key φ vs ms → vs.length = MV.wl ms
  | .nil => by simp [MV.wl]
  | .cons v m vs ms h1 h2 => by simp [MV.wl, h1.width, h2.width]
end
end

theorem Rep.one {key : Nat → Nat} {φ : Ph} {vs : List Value} {m : MV} (h : Rep key φ vs m) (hm : m.one = true) : ∃ v, vs = [v] ∧ v.oneCell' = true := by
  have hc := h.cells
  cases h <;> simp [MV.one] at hm <;> exact ⟨_, rfl, hc _ (by simp)⟩

/-- what an argument, or a result, says -/
def ArgRep (key : Nat → Nat) (φ : Ph) (v : Value) : MV → Prop
  | .h x => v = .agg (x.l.map fun b => Value.int .u8 (b.toNat : Int)).toArray
  | .agg ms => ∃ arr, v = .agg arr ∧ RepL key φ arr.toList ms
  | m => m.one = true ∧ Rep key φ [v] m

set_option linter.unusedSectionVars false
theorem ArgRep.mono {key : Nat → Nat} {φ φ' : Ph} (hle : PhLe φ φ') {v : Value} {m : MV} (h : ArgRep key φ v m) : ArgRep key φ' v m := by
  cases m <;> simp only [ArgRep] at h ⊢ <;> first | exact h | exact ⟨h.1, h.2.mono hle⟩ | (obtain ⟨arr, h1, h2⟩ := h; exact ⟨arr, h1, h2.mono hle⟩)

/-- what slots hang on: numbers of functions; memory that no one changes; the owned slices' values; the boxes' blocks; the owned slices -/
structure Env where
  key : Nat → Nat
  φ : Ph
  E : Nat → Value
  B : Nat → Nat
  m : List (Nat × Own)

def hcells (x : Hash) : List Value := x.l.map fun b => Value.int .u8 (b.toNat : Int)
theorem hcells_length (x : Hash) : (hcells x).length = 32 := by simp [hcells, x.h]

def LeafRep (e : Env) (vs : List Value) : Leaf → Prop
  | .un => ∃ v, vs = [v] ∧ v.oneCell' = true
  | .p x => x.one = true ∧ Rep e.key e.φ vs x
  | .hs x => vs = hcells x
  | .nil => vs = [.slice none 0 0]
  | .mp _ _ => False
  | .own f => ∃ v, vs = [v] ∧ v.oneCell' = true ∧ (∀ o, oget e.m f = some o → v = e.E f)
def LeavesRep (e : Env) : List Value → List Leaf → Prop
  | vs, [] => vs = []
  | vs, l :: ls => ∃ v r, vs = v ++ r ∧ LeafRep e v l ∧ LeavesRep e r ls
def pureL : Leaf → Bool
  | .p _ | .hs _ => true
  | _ => false
def pureLsB : List Leaf → Bool
  | [] => true
  | l :: r => pureL l && pureLsB r
/-- an element of a slice, and its leaves -/
def ElLeaves (st : Bool) (x : MV) (cs : List Leaf) : Prop := (∃ ms, leavesMV cs = some ms ∧ reEl st ms = some x) ∧ ∀ m, Leaf.p m ∈ cs → m.one = true
def pureS : Slot → Bool
  | .sc l => pureL l
  | .ag cs => pureLsB cs
  | _ => false
mutual
def SlotRep (e : Env) (v : Value) : Slot → Prop
  | .skip => v = undef
  | .sc l => match l with
    | .un => True
    | .hs x => v = .agg (hcells x).toArray
    | l => LeafRep e [v] l
  | .ag cs => ∃ arr, v = .agg arr ∧ LeavesRep e arr.toList cs
  | .tup vs => ∃ arr, v = .tuple arr ∧ SlotsRep e arr.toList vs
  | .box _ => False
  | .fbox cs => ∃ blk o vs, v = .pointer (some ⟨blk, o, none⟩) ∧ LeavesRep e vs cs ∧ pureLsB cs = true ∧ (∀ j, j < vs.length → e.φ blk (o + j) = vs[j]?)
  | .ptr r o => v = .pointer (some ⟨e.B r, o, none⟩)
  | .mref r => v = .map (some (e.B r))
  | .rp cs off => ∃ blk o vs, v = .pointer (some ⟨blk, o + off, none⟩) ∧ LeavesRep e vs cs ∧ pureLsB cs = true ∧ (∀ j, j < vs.length → e.φ blk (o + j) = vs[j]?)
  | .hp r o i => v = .pointer (some ⟨e.B r, o + i, none⟩) ∧ i < 32
  | .ep f i off st cs => ∀ o, oget e.m f = some o → ∃ blk cap, e.E f = .slice (some ⟨blk, 0, none⟩) o.xs.length cap ∧ (∃ x, o.xs[i]? = some x ∧ ElLeaves st x cs) ∧
      v = .pointer (some ⟨blk, i * sumW cs + off, none⟩)
def SlotsRep (e : Env) : List Value → List Slot → Prop
  | vs, [] => vs = []
  | vs, s :: ss => ∃ v r, vs = v :: r ∧ SlotRep e v s ∧ pureS s = true ∧ SlotsRep e r ss
end

/-- the rows of a type table are the program's -/
def leafZ : Leaf → List Value → Bool
  | .p (.b x), [.bool y] => x == y
  | .p (.i k n), [.int k' n'] => decide (k = k') && decide (n = n')
  | .p (.s l), [.string s] => decide (l = s.data.toList)
  | .p (.raw v), [w] => match v, w with
    | .nilFunc, .nilFunc => true
    | .nilIface, .nilIface => true
    | .pointer none, .pointer none => true
    | _, _ => false
  | .nil, [.slice none 0 0] => true
  | .un, [v] => v.oneCell'
  | .hs x, vs => (vs.length == 32) && (vs.zip x.l).all fun p => match p.1 with | .int .u8 n => decide (n = (p.2.toNat : Int)) | _ => false
  | _, _ => false
def leavesZ : List Leaf → List Value → Bool
  | [], vs => vs.isEmpty
  | l :: ls, vs => leafZ l (vs.take l.w) && leavesZ ls (vs.drop l.w) && decide (l.w ≤ vs.length)

end Dn
/-
  How an abstract state stands to a frame and a memory; laws of frames and leaves. Conditions: none.
-/
set_option linter.unusedSimpArgs false
set_option linter.unusedVariables false
namespace Dn
open Go

/-! ### frames, without continuations -/
def fsetP : Fr → Nat → Slot → Fr
  | [], t, v => [(t, v)]
  | (k, s) :: r, t, v => bif Nat.beq k t then (k, v) :: r else (k, s) :: fsetP r t v
def dropP (ds : List Nat) : Fr → Fr
  | [] => []
  | (k, s) :: r => bif isPtr s || nmem ds k then dropP ds r else (k, s) :: dropP ds r
def pickP (ks : List Nat) : Fr → Fr
  | [] => []
  | (k, s) :: r => bif nmem ks k && !isPtr s then (k, s) :: pickP ks r else pickP ks r
def osetP : List (Nat × Own) → Nat → Own → List (Nat × Own)
  | [], t, v => [(t, v)]
  | (k, s) :: r, t, v => bif Nat.beq k t then (k, v) :: r else (k, s) :: osetP r t v
def kLP (f : Nat) : Leaf → Leaf
  | .own g => bif Nat.beq g f then .un else .own g
  | l => l
def kSP (f : Nat) : Slot → Slot
  | .sc l => .sc (kLP f l)
  | .ag cs => .ag (cs.map (kLP f))
  | .box cs => .box (cs.map (kLP f))
  | .ep g i o b cs => bif Nat.beq g f then .sc .un else .ep g i o b cs
  | s => s
def kFrP (f : Nat) (r : Fr) : Fr := r.map fun p => (p.1, kSP f p.2)
def kEpP (f : Nat) (r : Fr) : Fr := r.map fun p => (p.1, match p.2 with
  | .ep g i o b cs => bif Nat.beq g f then .sc .un else .ep g i o b cs
  | s => s)
def nLP (ps : List Nat) : Leaf → Leaf
  | .own g => bif nmem ps g then .own g else .un
  | l => l
def nSP (ps : List Nat) : Slot → Slot
  | .sc l => .sc (nLP ps l)
  | .ag cs => .ag (cs.map (nLP ps))
  | .box cs => .box (cs.map (nLP ps))
  | s => s
def nFrP (ps : List Nat) (r : Fr) : Fr := r.map fun p => (p.1, nSP ps p.2)
def pickFP (ks fs qs : List Nat) : List (Nat × Own) → List (Nat × Own)
  | [] => []
  | (k, o) :: r => bif nmem ks k then (bif nmem fs k && !nmem qs k then (k, ⟨o.ty, true, o.xs⟩) else (k, o)) :: pickFP ks fs qs r else pickFP ks fs qs r

section
variable {R : Type}
theorem force_eq (s : Slot) (K : Slot → Option R) : force s K = K s := by cases s <;> rfl
theorem fset_eq (r : Fr) (t : Nat) (s : Slot) (K : Fr → Option R) : fset r t s K = K (fsetP r t s) := by
  induction r generalizing K with
  | nil => rfl
  | cons p r ih => obtain ⟨k, x⟩ := p; simp only [fset, fsetP]; cases Nat.beq k t <;> simp [ih]
theorem dropPtrs_eq (ds : List Nat) (r : Fr) (K : Fr → Option R) : dropPtrs ds r K = K (dropP ds r) := by
  induction r generalizing K with
  | nil => rfl
  | cons p r ih => obtain ⟨k, x⟩ := p; simp only [dropPtrs, dropP]; cases isPtr x || nmem ds k <;> simp [ih]
theorem pick_eq (ks : List Nat) (r : Fr) (K : Fr → Option R) : pick ks r K = K (pickP ks r) := by
  induction r generalizing K with
  | nil => rfl
  | cons p r ih => obtain ⟨k, x⟩ := p; simp only [pick, pickP]; cases nmem ks k && !isPtr x <;> simp [ih]
theorem oset_eq (r : List (Nat × Own)) (t : Nat) (s : Own) (K : List (Nat × Own) → Option R) : oset r t s K = K (osetP r t s) := by
  induction r generalizing K with
  | nil => rfl
  | cons p r ih => obtain ⟨k, x⟩ := p; simp only [oset, osetP]; cases Nat.beq k t <;> simp [ih]
theorem kLeaves_eq (f : Nat) (cs : List Leaf) (K : List Leaf → Option R) : kLeaves f cs K = K (cs.map (kLP f)) := by
  induction cs generalizing K with
  | nil => rfl
  | cons l r ih => cases l <;> simp only [kLeaves, List.map_cons, kLP, ih]; rename_i g; cases Nat.beq g f <;> rfl
theorem kSlot_eq (f : Nat) (s : Slot) (K : Slot → Option R) : kSlot f s K = K (kSP f s) := by
  cases s with
  | sc l => cases l <;> simp only [kSlot, kSP, kLP]; rename_i g; cases Nat.beq g f <;> rfl
  | ag cs => simp only [kSlot, kSP, kLeaves_eq]
  | box cs => simp only [kSlot, kSP, kLeaves_eq]
  | ep g i o b cs => simp only [kSlot, kSP]; cases Nat.beq g f <;> rfl
  | _ => rfl
theorem kFr_eq (f : Nat) (r : Fr) (K : Fr → Option R) : kFr f r K = K (kFrP f r) := by
  induction r generalizing K with
  | nil => rfl
  | cons p r ih => obtain ⟨k, x⟩ := p; simp only [kFr, kSlot_eq, ih, kFrP, List.map_cons]
theorem kEp_eq (f : Nat) (r : Fr) (K : Fr → Option R) : kEp f r K = K (kEpP f r) := by
  induction r generalizing K with
  | nil => rfl
  | cons p r ih =>
    obtain ⟨k, x⟩ := p
    cases x <;> simp only [kEp, ih, kEpP, List.map_cons]
    rename_i g i o b cs
    cases Nat.beq g f <;> rfl
theorem nLeaves_eq (f : List Nat) (cs : List Leaf) (K : List Leaf → Option R) : nLeaves f cs K = K (cs.map (nLP f)) := by
  induction cs generalizing K with
  | nil => rfl
  | cons l r ih => cases l <;> simp only [nLeaves, List.map_cons, nLP, ih]; rename_i g; cases nmem f g <;> rfl
theorem nSlot_eq (f : List Nat) (s : Slot) (K : Slot → Option R) : nSlot f s K = K (nSP f s) := by
  cases s with
  | sc l => cases l <;> simp only [nSlot, nSP, nLP]; rename_i g; cases nmem f g <;> rfl
  | ag cs => simp only [nSlot, nSP, nLeaves_eq]
  | box cs => simp only [nSlot, nSP, nLeaves_eq]
  | _ => rfl
theorem nFr_eq (f : List Nat) (r : Fr) (K : Fr → Option R) : nFr f r K = K (nFrP f r) := by
  induction r generalizing K with
  | nil => rfl
  | cons p r ih => obtain ⟨k, x⟩ := p; simp only [nFr, nSlot_eq, ih, nFrP, List.map_cons]
theorem pickF_eq (ks fs qs : List Nat) (r : List (Nat × Own)) (K : List (Nat × Own) → Option R) : pickF ks fs qs r K = K (pickFP ks fs qs r) := by
  induction r generalizing K with
  | nil => rfl
  | cons p r ih =>
    obtain ⟨k, x⟩ := p
    simp only [pickF, pickFP]
    cases nmem ks k
    · simp [ih]
    · simp only [cond_true, ih]
      cases nmem fs k && !nmem qs k <;> rfl
theorem app_eq {α : Type} (x y : List α) : app x y = some (x ++ y) := by
  induction x with
  | nil => rfl
  | cons a r ih => simp [app, ih]
end

theorem nbeq (a b : Nat) : Nat.beq a b = decide (a = b) := by
  by_cases h : a = b
  · subst h; simp
  · simp only [h, decide_false]; exact Bool.eq_false_iff.2 (fun e => h (Nat.eq_of_beq_eq_true e))
theorem nmem_iff (l : List Nat) (t : Nat) : nmem l t = true ↔ t ∈ l := by
  induction l with
  | nil => simp [nmem]
  | cons k r ih =>
    simp only [nmem, nbeq, List.mem_cons]
    by_cases h : k = t
    · simp [h]
    · simp only [h, decide_false, cond_false, ih]
      exact ⟨.inr, fun h' => h'.resolve_left (fun e => h e.symm)⟩
theorem fget_fsetP (r : Fr) (d t : Nat) (s : Slot) : fget (fsetP r d s) t = if t = d then s else fget r t := by
  induction r with
  | nil => simp only [fsetP, fget, nbeq]; by_cases h : t = d <;> simp [h, Ne.symm] <;> (intro e; exact absurd e.symm h)
  | cons p r ih =>
    obtain ⟨k, x⟩ := p
    simp only [fsetP, nbeq]
    by_cases hk : k = d
    · subst hk
      simp only [decide_true, cond_true, fget, nbeq]
      by_cases h : k = t
      · simp [h]
      · have h' : ¬ t = k := fun e => h e.symm
        simp [h, h']
    · simp only [hk, decide_false, cond_false, fget, nbeq, ih]
      by_cases h : k = t
      · subst h; simp [hk]
      · simp [h]
theorem oget_osetP (r : List (Nat × Own)) (d t : Nat) (s : Own) : oget (osetP r d s) t = if t = d then some s else oget r t := by
  induction r with
  | nil => simp only [osetP, oget, nbeq]; by_cases h : t = d <;> simp [h, Ne.symm] <;> (intro e; exact absurd e.symm h)
  | cons p r ih =>
    obtain ⟨k, x⟩ := p
    simp only [osetP, nbeq]
    by_cases hk : k = d
    · subst hk
      simp only [decide_true, cond_true, oget, nbeq]
      by_cases h : k = t
      · simp [h]
      · have h' : ¬ t = k := fun e => h e.symm
        simp [h, h']
    · simp only [hk, decide_false, cond_false, oget, nbeq, ih]
      by_cases h : k = t
      · subst h; simp [hk]
      · simp [h]
theorem fget_map (g : Slot → Slot) (hg : g (.sc .un) = .sc .un) (r : Fr) (t : Nat) : fget (r.map fun p => (p.1, g p.2)) t = g (fget r t) := by
  induction r with
  | nil => simp [fget, hg]
  | cons p r ih =>
    obtain ⟨k, x⟩ := p
    simp only [List.map_cons, fget, nbeq]
    by_cases h : k = t <;> simp [h, ih]
theorem fget_kFrP (f : Nat) (r : Fr) (t : Nat) : fget (kFrP f r) t = kSP f (fget r t) := fget_map (kSP f) rfl r t
theorem fget_nFrP (f : List Nat) (r : Fr) (t : Nat) : fget (nFrP f r) t = nSP f (fget r t) := fget_map (nSP f) rfl r t
def keysOf (r : Fr) : List Nat := r.map Prod.fst
theorem fget_none (r : Fr) (t : Nat) (h : t ∉ keysOf r) : fget r t = .sc .un := by
  induction r with
  | nil => rfl
  | cons p r ih =>
    obtain ⟨k, x⟩ := p
    simp only [keysOf, List.map_cons, List.mem_cons, not_or] at h
    have h' : ¬ k = t := fun e => h.1 e.symm
    simp only [fget, nbeq, h', decide_false, cond_false]
    exact ih h.2
theorem keysOf_dropP (ds : List Nat) (r : Fr) : List.Sublist (keysOf (dropP ds r)) (keysOf r) := by
  induction r with
  | nil => simp [keysOf, dropP]
  | cons p r ih =>
    obtain ⟨k, x⟩ := p
    simp only [dropP]
    cases isPtr x || nmem ds k
    · simpa [keysOf] using ih
    · exact (List.Sublist.cons _ ih)
theorem keysOf_pickP (ds : List Nat) (r : Fr) : List.Sublist (keysOf (pickP ds r)) (keysOf r) := by
  induction r with
  | nil => simp [keysOf, pickP]
  | cons p r ih =>
    obtain ⟨k, x⟩ := p
    simp only [pickP]
    cases nmem ds k && !isPtr x
    · exact (List.Sublist.cons _ ih)
    · simpa [keysOf] using ih
theorem fget_dropP (ds : List Nat) (r : Fr) (hn : (keysOf r).Nodup) (t : Nat) : fget (dropP ds r) t = if isPtr (fget r t) || nmem ds t then .sc .un else fget r t := by
  induction r with
  | nil => simp [fget, dropP]
  | cons p r ih =>
    obtain ⟨k, x⟩ := p
    simp only [keysOf, List.map_cons, List.nodup_cons] at hn
    have ih := ih hn.2
    simp only [dropP]
    by_cases hk : k = t
    · subst hk
      cases hb : isPtr x || nmem ds k
      · simp [fget, nbeq, hb]
      · simp only [cond_true, fget, nbeq, decide_true, hb, if_true]
        refine fget_none _ _ (fun hm => hn.1 ((keysOf_dropP ds r).subset hm))
    · cases hb : isPtr x || nmem ds k
      · simp [fget, nbeq, hk, ih]
      · simp [fget, nbeq, hk, ih]
theorem fget_pickP (ds : List Nat) (r : Fr) (hn : (keysOf r).Nodup) (t : Nat) : fget (pickP ds r) t = if nmem ds t && !isPtr (fget r t) then fget r t else .sc .un := by
  induction r with
  | nil => simp [fget, pickP]
  | cons p r ih =>
    obtain ⟨k, x⟩ := p
    simp only [keysOf, List.map_cons, List.nodup_cons] at hn
    have ih := ih hn.2
    simp only [pickP]
    by_cases hk : k = t
    · subst hk
      cases hb : nmem ds k && !isPtr x
      · simp only [cond_false, fget, nbeq, decide_true, cond_true, hb]
        exact fget_none _ _ (fun hm => hn.1 ((keysOf_pickP ds r).subset hm))
      · simp [fget, nbeq, hb]
    · cases hb : nmem ds k && !isPtr x <;> simp [fget, nbeq, hk, ih]
theorem fget_append (r s : Fr) (t : Nat) : fget (r ++ s) t = if t ∈ keysOf r then fget r t else fget s t := by
  induction r with
  | nil => simp [keysOf]
  | cons p r ih =>
    obtain ⟨k, x⟩ := p
    simp only [List.cons_append, fget, nbeq, keysOf, List.map_cons, List.mem_cons]
    by_cases h : k = t
    · simp [h]
    · have h' : ¬ t = k := fun e => h e.symm
      simp only [h, h', decide_false, cond_false, ih, false_or]
      rfl

end Dn
/-
  Laws of leaves and slots: offsets, and what changes elsewhere. Conditions: none.
-/
set_option linter.unusedSimpArgs false
set_option linter.unusedVariables false
namespace Dn
open Go

section
variable {e e' : Env}
theorem LeafRep.width {vs : List Value} {l : Leaf} (h : LeafRep e vs l) : vs.length = l.w := by
  cases l with
  | un => obtain ⟨v, rfl, _⟩ := h; rfl
  | p m => obtain ⟨v, rfl, _⟩ := h.2.one h.1; rfl
  | hs x => cases h; simp [hcells, x.h, Leaf.w]
  | nil => cases h; rfl
  | mp s es => exact h.elim
  | own f => obtain ⟨v, rfl, _⟩ := h; rfl
theorem LeafRep.cells {vs : List Value} {l : Leaf} (h : LeafRep e vs l) : ∀ v ∈ vs, v.oneCell' = true := by
  cases l with
  | un => obtain ⟨v, rfl, hv⟩ := h; simpa using hv
  | p m => exact h.2.cells
  | hs x =>
    cases h
    intro v hv
    obtain ⟨b, _, rfl⟩ := List.mem_map.1 hv
    rfl
  | nil => cases h; simp [Value.oneCell']
  | mp s es => exact h.elim
  | own f => obtain ⟨v, rfl, hv, _⟩ := h; simpa using hv
theorem LeavesRep.width {cs : List Leaf} : ∀ {vs : List Value}, LeavesRep e vs cs → vs.length = sumW cs := by
  induction cs with
  | nil => intro vs h; cases h; rfl
  | cons l r ih => intro vs h; obtain ⟨v, w, rfl, h1, h2⟩ := h; simp [sumW, h1.width, ih h2]
theorem LeavesRep.cells {cs : List Leaf} : ∀ {vs : List Value}, LeavesRep e vs cs → ∀ v ∈ vs, v.oneCell' = true := by
  induction cs with
  | nil => intro vs h; cases h; simp
  | cons l r ih =>
    intro vs h v hv
    obtain ⟨a, w, rfl, h1, h2⟩ := h
    rcases List.mem_append.1 hv with hv | hv
    · exact h1.cells v hv
    · exact ih h2 v hv
theorem LeavesRep.append {cs ds : List Leaf} : ∀ {vs ws : List Value}, LeavesRep e vs cs → LeavesRep e ws ds → LeavesRep e (vs ++ ws) (cs ++ ds) := by
  induction cs with
  | nil => intro vs ws h h'; cases h; simpa using h'
  | cons l r ih => intro vs ws h h'; obtain ⟨v, w, rfl, h1, h2⟩ := h; exact ⟨v, w ++ ws, by simp, h1, ih h2 h'⟩

theorem cut_spec {cs : List Leaf} : ∀ {off : Nat} {ds : List Leaf} {vs : List Value}, cut cs off = some ds → LeavesRep e vs cs →
    ∃ v1 v2, vs = v1 ++ v2 ∧ v1.length = off ∧ LeavesRep e v2 ds := by
  induction cs with
  | nil =>
    intro off ds vs h hr
    cases off with
    | zero => simp only [cut, Option.some.injEq] at h; subst h; exact ⟨[], vs, rfl, rfl, hr⟩
    | succ n => simp [cut] at h
  | cons l r ih =>
    intro off ds vs h hr
    cases off with
    | zero => simp only [cut, Option.some.injEq] at h; subst h; exact ⟨[], vs, rfl, rfl, hr⟩
    | succ n =>
      simp only [cut] at h
      cases hb : Nat.ble l.w (n + 1) with
      | false => simp [hb] at h
      | true =>
        simp only [hb, cond_true] at h
        have hle := Nat.le_of_ble_eq_true hb
        obtain ⟨v, w, rfl, h1, h2⟩ := hr
        obtain ⟨v1, v2, rfl, hl, h3⟩ := ih h h2
        exact ⟨v ++ v1, v2, by simp, by simp [h1.width, hl]; omega, h3⟩
theorem upTo_spec {cs : List Leaf} : ∀ {n : Nat} {ds : List Leaf} {vs : List Value}, upTo cs n = some ds → LeavesRep e vs cs →
    ∃ v1 v2, vs = v1 ++ v2 ∧ v1.length = n ∧ LeavesRep e v1 ds := by
  induction cs with
  | nil =>
    intro n ds vs h hr
    cases n with
    | zero => simp only [upTo, Option.some.injEq] at h; subst h; exact ⟨[], vs, rfl, rfl, rfl⟩
    | succ n => simp [upTo] at h
  | cons l r ih =>
    intro n ds vs h hr
    cases n with
    | zero => simp only [upTo, Option.some.injEq] at h; subst h; exact ⟨[], vs, rfl, rfl, rfl⟩
    | succ n =>
      simp only [upTo] at h
      cases hb : Nat.ble l.w (n + 1) with
      | false => simp [hb] at h
      | true =>
        simp only [hb, cond_true] at h
        have hle := Nat.le_of_ble_eq_true hb
        obtain ⟨v, w, rfl, h1, h2⟩ := hr
        cases hu : upTo r (n + 1 - l.w) with
        | none => simp [hu] at h
        | some b =>
          simp only [hu, Option.some.injEq] at h
          subst h
          obtain ⟨v1, v2, rfl, hl, h3⟩ := ih hu h2
          exact ⟨v ++ v1, v2, by simp, by simp [h1.width, hl]; omega, v, v1, rfl, h1, h3⟩
theorem part_spec {cs : List Leaf} {off n : Nat} {ds : List Leaf} {vs : List Value} (h : part cs off n = some ds) (hr : LeavesRep e vs cs) :
    ∃ v1 v2 v3, vs = v1 ++ v2 ++ v3 ∧ v1.length = off ∧ v2.length = n ∧ LeavesRep e v2 ds := by
  unfold part at h
  cases hc : cut cs off with
  | none => simp [hc] at h
  | some a =>
    simp only [hc] at h
    obtain ⟨v1, v2, rfl, h1, h2⟩ := cut_spec hc hr
    obtain ⟨v3, v4, rfl, h3, h4⟩ := upTo_spec h h2
    exact ⟨v1, v3, v4, by simp, h1, h3, h4⟩
theorem over_spec {ls : List Leaf} : ∀ {cs ds : List Leaf} {vs ws : List Value}, over ls cs = some ds → LeavesRep e vs cs → LeavesRep e ws ls →
    ∃ v1 v2, vs = v1 ++ v2 ∧ v1.length = ws.length ∧ LeavesRep e (ws ++ v2) ds := by
  induction ls with
  | nil => intro cs ds vs ws h hr hw; simp only [over, Option.some.injEq] at h; subst h; cases hw; exact ⟨[], vs, rfl, rfl, hr⟩
  | cons l r ih =>
    intro cs ds vs ws h hr hw
    cases cs with
    | nil => simp [over] at h
    | cons c cs =>
      simp only [over] at h
      cases hb : Nat.beq l.w c.w with
      | false => simp [hb] at h
      | true =>
        simp only [hb, cond_true] at h
        have hww := Nat.eq_of_beq_eq_true hb
        cases ho : over r cs with
        | none => simp [ho] at h
        | some q =>
          simp only [ho, Option.some.injEq] at h
          subst h
          obtain ⟨v, w, rfl, h1, h2⟩ := hr
          obtain ⟨a, b, rfl, h3, h4⟩ := hw
          obtain ⟨v1, v2, rfl, hl, h5⟩ := ih ho h2 h4
          exact ⟨v ++ v1, v2, by simp, by simp [h1.width, h3.width, hl, hww], a, b ++ v2, by simp, h3, h5⟩
theorem putAt_spec {cs : List Leaf} : ∀ {off : Nat} {ls ds : List Leaf} {vs ws : List Value}, putAt cs off ls = some ds → LeavesRep e vs cs → LeavesRep e ws ls →
    ∃ v1 v2 v3, vs = v1 ++ v2 ++ v3 ∧ v1.length = off ∧ v2.length = ws.length ∧ LeavesRep e (v1 ++ ws ++ v3) ds := by
  induction cs with
  | nil =>
    intro off ls ds vs ws h hr hw
    cases off with
    | zero =>
      simp only [putAt] at h
      obtain ⟨v1, v2, rfl, h1, h2⟩ := over_spec h hr hw
      exact ⟨[], v1, v2, by simp, rfl, h1, by simpa using h2⟩
    | succ n => simp [putAt] at h
  | cons l r ih =>
    intro off ls ds vs ws h hr hw
    cases off with
    | zero =>
      simp only [putAt] at h
      obtain ⟨v1, v2, rfl, h1, h2⟩ := over_spec h hr hw
      exact ⟨[], v1, v2, by simp, rfl, h1, by simpa using h2⟩
    | succ n =>
      simp only [putAt] at h
      cases hb : Nat.ble l.w (n + 1) with
      | false => simp [hb] at h
      | true =>
        simp only [hb, cond_true] at h
        have hle := Nat.le_of_ble_eq_true hb
        obtain ⟨v, w, rfl, h1, h2⟩ := hr
        cases hu : putAt r (n + 1 - l.w) ls with
        | none => simp [hu] at h
        | some b =>
          simp only [hu, Option.some.injEq] at h
          subst h
          obtain ⟨v1, v2, v3, rfl, hl, hl2, h3⟩ := ih hu h2 hw
          exact ⟨v ++ v1, v2, v3, by simp, by simp [h1.width, hl]; omega, hl2, v, v1 ++ ws ++ v3, by simp, h1, h3⟩

/-- what holds elsewhere: the families of which S says so are as they were -/
structure EnvOn (S T : Nat → Prop) (e e' : Env) : Prop where
  key : e'.key = e.key
  φ : PhLe e.φ e'.φ
  B : ∀ r, T r → e'.B r = e.B r
  fam : ∀ f o', oget e'.m f = some o' → S f → ∃ o, oget e.m f = some o ∧ e'.E f = e.E f ∧ o'.xs = o.xs

def leafOn (S : Nat → Prop) (l : Leaf) : Prop := ∀ f, l = .own f → S f
def slotOn (S T : Nat → Prop) : Slot → Prop
  | .ptr r _ => T r
  | .mref r => T r
  | .hp r _ _ => T r
  | .sc l => leafOn S l
  | .ag cs => ∀ l ∈ cs, leafOn S l
  | .ep g _ _ _ _ => S g
  | _ => True

theorem LeafRep.on {S T : Nat → Prop} (h : EnvOn S T e e') {vs : List Value} {l : Leaf} (hl : leafOn S l) (hr : LeafRep e vs l) : LeafRep e' vs l := by
  cases l with
  | un => exact hr
  | p m => exact ⟨hr.1, by have := hr.2.mono h.φ; rw [← h.key] at this; exact this⟩
  | hs x => exact hr
  | nil => exact hr
  | mp s es => exact hr
  | own f =>
    obtain ⟨v, rfl, hv, hf⟩ := hr
    refine ⟨v, rfl, hv, fun o' ho' => ?_⟩
    obtain ⟨o, ho, hE, _⟩ := h.fam f o' ho' (hl f rfl)
    rw [hE]; exact hf o ho
theorem LeavesRep.on {S T : Nat → Prop} (h : EnvOn S T e e') {cs : List Leaf} : ∀ {vs : List Value}, (∀ l ∈ cs, leafOn S l) → LeavesRep e vs cs → LeavesRep e' vs cs := by
  induction cs with
  | nil => intro vs _ hr; exact hr
  | cons l r ih =>
    intro vs hl hr
    obtain ⟨v, w, rfl, h1, h2⟩ := hr
    exact ⟨v, w, rfl, h1.on h (hl l (by simp)), ih (fun x hx => hl x (by simp [hx])) h2⟩
theorem pureL_on {S : Nat → Prop} {l : Leaf} (h : pureL l = true) : leafOn S l := by
  intro f hf; subst hf; simp [pureL] at h
theorem pureLsB_on {S : Nat → Prop} {cs : List Leaf} (h : pureLsB cs = true) : ∀ l ∈ cs, leafOn S l := by
  induction cs with
  | nil => simp
  | cons l r ih =>
    simp only [pureLsB, Bool.and_eq_true] at h
    intro x hx
    rcases List.mem_cons.1 hx with rfl | hx
    · exact pureL_on h.1
    · exact ih h.2 x hx
mutual
theorem SlotRep.on {S T : Nat → Prop} (h : EnvOn S T e e') {v : Value} : ∀ {s : Slot}, slotOn S T s → SlotRep e v s → SlotRep e' v s
  | .skip, _, hr => by simpa [SlotRep] using hr
  | .sc l, hs, hr => by
    cases l with
    | un => simp [SlotRep]
    | hs x => simpa [SlotRep] using hr
    | p m => simp only [SlotRep] at hr ⊢; exact hr.on h hs
    | nil => simp only [SlotRep] at hr ⊢; exact hr.on h hs
    | mp s es => simp only [SlotRep] at hr ⊢; exact hr
    | own f => simp only [SlotRep] at hr ⊢; exact hr.on h hs
  | .ag cs, hs, hr => by
    simp only [SlotRep] at hr ⊢
    obtain ⟨arr, h1, h2⟩ := hr
    exact ⟨arr, h1, h2.on h hs⟩
  | .tup vs, _, hr => by
    simp only [SlotRep] at hr ⊢
    obtain ⟨arr, h1, h2⟩ := hr
    exact ⟨arr, h1, SlotsRep.on h h2⟩
  | .box _, _, hr => by simp [SlotRep] at hr
  | .fbox cs, _, hr => by
    simp only [SlotRep] at hr ⊢
    obtain ⟨blk, o, vs, h1, h2, h3, h4⟩ := hr
    exact ⟨blk, o, vs, h1, h2.on h (pureLsB_on h3), h3, fun j hj => ph_get h.φ hj (h4 j hj)⟩
  | .ptr r o, hs, hr => by simp only [SlotRep] at hr ⊢; rw [h.B r hs]; exact hr
  | .mref r, hs, hr => by simp only [SlotRep] at hr ⊢; rw [h.B r hs]; exact hr
  | .rp cs off, _, hr => by
    simp only [SlotRep] at hr ⊢
    obtain ⟨blk, o, vs, h1, h2, h3, h4⟩ := hr
    exact ⟨blk, o, vs, h1, h2.on h (pureLsB_on h3), h3, fun j hj => ph_get h.φ hj (h4 j hj)⟩
  | .hp r o i, hs, hr => by simp only [SlotRep] at hr ⊢; rw [h.B r hs]; exact hr
  | .ep f i off st cs, hs, hr => by
    simp only [SlotRep] at hr ⊢
    intro o' ho'
    obtain ⟨o, ho, hE, hx⟩ := h.fam f o' ho' hs
    obtain ⟨blk, cap, h1, h2, h3⟩ := hr o ho
    exact ⟨blk, cap, by rw [hE, hx]; exact h1, by rw [hx]; exact h2, h3⟩
theorem SlotsRep.on {S T : Nat → Prop} (h : EnvOn S T e e') : ∀ {vs : List Value} {ss : List Slot}, SlotsRep e vs ss → SlotsRep e' vs ss
  | vs, [], hr => hr
  | vs, s :: ss, hr => by
    simp only [SlotsRep] at hr ⊢
    obtain ⟨v, r, h1, h2, h3, h4⟩ := hr
    refine ⟨v, r, h1, SlotRep.on h ?_ h2, h3, SlotsRep.on h h4⟩
    cases s <;> simp [pureS] at h3 <;> simp only [slotOn]
    · exact pureL_on h3
    · exact pureLsB_on h3
end
end

end Dn
/-
  The relation between an abstract state and a running frame; operations that change no memory. Conditions: none.
-/
set_option linter.unusedSimpArgs false
set_option linter.unusedVariables false
namespace Dn
open Go

section
variable {e e' : Env}
theorem LeafRep.kill {vs : List Value} {l : Leaf} (f : Nat) (h : LeafRep e vs l) : LeafRep e vs (kLP f l) := by
  cases l with
  | own g =>
    simp only [kLP]
    cases Nat.beq g f
    · exact h
    · obtain ⟨v, rfl, hv, _⟩ := h; exact ⟨v, rfl, hv⟩
  | _ => exact h
theorem kLP_on (f : Nat) (l : Leaf) : leafOn (· ≠ f) (kLP f l) := by
  intro g hg
  cases l <;> simp [kLP] at hg
  rename_i g'
  cases hb : Nat.beq g' f <;> simp [hb] at hg
  subst hg
  intro e; subst e; simp [nbeq] at hb
theorem LeafRep.nkill {vs : List Value} {l : Leaf} (f : List Nat) (h : LeafRep e vs l) : LeafRep e vs (nLP f l) := by
  cases l with
  | own g =>
    simp only [nLP]
    cases nmem f g
    · obtain ⟨v, rfl, hv, _⟩ := h; exact ⟨v, rfl, hv⟩
    · exact h
  | _ => exact h
theorem nLP_on (f : List Nat) (l : Leaf) : leafOn (· ∈ f) (nLP f l) := by
  intro g hg
  cases l <;> simp [nLP] at hg
  rename_i g'
  cases hb : nmem f g' <;> simp [hb] at hg
  subst hg
  exact (nmem_iff _ _).1 hb
theorem LeavesRep.map {g : Leaf → Leaf} (hg : ∀ vs l, LeafRep e vs l → LeafRep e vs (g l)) {cs : List Leaf} : ∀ {vs : List Value}, LeavesRep e vs cs → LeavesRep e vs (cs.map g) := by
  induction cs with
  | nil => intro vs h; exact h
  | cons l r ih => intro vs h; obtain ⟨v, w, rfl, h1, h2⟩ := h; exact ⟨v, w, rfl, hg _ _ h1, ih h2⟩
theorem SlotRep.sc_iff {v : Value} {l : Leaf} (hl : ∀ x, l ≠ .hs x) (hu : l ≠ .un) : SlotRep e v (.sc l) ↔ LeafRep e [v] l := by
  cases l <;> simp_all [SlotRep]
theorem SlotRep.kill {v : Value} {s : Slot} (f : Nat) (h : SlotRep e v s) : SlotRep e v (kSP f s) := by
  cases s with
  | sc l =>
    cases l with
    | own g =>
      simp only [kSP, kLP]
      cases Nat.beq g f
      · exact h
      · simp [SlotRep]
    | _ => exact h
  | ag cs => simp only [kSP, SlotRep] at h ⊢; obtain ⟨arr, h1, h2⟩ := h; exact ⟨arr, h1, h2.map (fun _ _ => LeafRep.kill f)⟩
  | box cs => simp [SlotRep] at h
  | ep g i o b cs =>
    simp only [kSP]
    cases Nat.beq g f
    · exact h
    · simp [SlotRep]
  | _ => exact h
theorem kSP_on (f : Nat) (T : Nat → Prop) (s : Slot) (hT : slotOn (fun _ => True) T s) : slotOn (· ≠ f) T (kSP f s) := by
  cases s with
  | sc l => exact kLP_on f l
  | ag cs => intro l hl; obtain ⟨x, _, rfl⟩ := List.mem_map.1 hl; exact kLP_on f x
  | ep g i o b cs =>
    simp only [kSP]
    cases hb : Nat.beq g f
    · simp only [cond_false, slotOn]; intro e; subst e; simp [nbeq] at hb
    · simp [slotOn, leafOn]
  | ptr r o => exact hT
  | hp r o i => exact hT
  | _ => trivial
theorem SlotRep.nkill {v : Value} {s : Slot} (f : List Nat) (h : SlotRep e v s) : SlotRep e v (nSP f s) := by
  cases s with
  | sc l =>
    cases l with
    | own g =>
      simp only [nSP, nLP]
      cases nmem f g
      · simp [SlotRep]
      · exact h
    | _ => exact h
  | ag cs => simp only [nSP, SlotRep] at h ⊢; obtain ⟨arr, h1, h2⟩ := h; exact ⟨arr, h1, h2.map (fun _ _ => LeafRep.nkill f)⟩
  | box cs => simp [SlotRep] at h
  | _ => exact h
end

/-- elements of a slice, cell by cell -/
def ElemsRep (key : Nat → Nat) (φ : Ph) (size : Nat) : List Value → List MV → Prop
  | vs, [] => vs = []
  | vs, x :: xs => ∃ v r, vs = v ++ r ∧ v.length = size ∧ Rep key φ v x ∧ ElemsRep key φ size r xs

/-- the memory that may be changed; slots and families that may not be written, the values of these slots; is what is shared of a family known whole -/
structure Zone where
  In : Nat → Prop
  prot : List Nat
  pfam : List Nat
  T : Nat → Value
  cov : Prop
  Pr : Nat → Prop
instance : CoeFun Zone (fun _ => Nat → Prop) := ⟨Zone.In⟩
instance : Coe Zone (Nat → Prop) := ⟨Zone.In⟩
theorem orl {a b c : Prop} (h : (a ∧ b) ∨ c) (hn : ¬ a) : c := h.resolve_left fun h => hn h.1
def Zone.nc (Z : Zone) : Zone := { Z with cov := False }
def Zone.plain (I : Nat → Prop) : Zone := ⟨I, [], [], fun _ => undef, False, fun _ => True⟩
/-- .. for the variable of a slot -/
def Zone.bz (Z : Zone) (t : Nat) : Zone := { Z with In := fun b => (t ∈ Z.prot ∧ Z.Pr b) ∨ Z.In b }
/-- .. for a family -/
def Zone.fz (Z : Zone) (f : Nat) : Zone := { Z with In := fun b => (f ∈ Z.pfam ∧ Z.Pr b) ∨ Z.In b, cov := f ∈ Z.pfam }

/-- what a key is: its parts, and its value -/
def fitM : Kd → MV → Bool
  | .b, .b _ => true
  | .i k, .i k' _ => decide (k' = k)
  | .s, .s _ => true
  | .h, .h _ => true
  | _, _ => false
def fitMs : List Kd → List MV → Bool
  | [], [] => true
  | k :: ks, m :: ms => fitM k m && fitMs ks ms
  | _, _ => false
def mvV : MV → List Value
  | .b x => [.bool x]
  | .i k n => [.int k n]
  | .s l => [.string ⟨l.toArray⟩]
  | .h x => hcells x
  | _ => []
def keyV (st : Bool) (ks : List MV) : Value := match st, ks with
  | false, [.h x] => .agg (hcells x).toArray
  | false, [.b x] => .bool x
  | false, [.i k n] => .int k n
  | false, [.s l] => .string ⟨l.toArray⟩
  | _, ks => .agg (ks.flatMap mvV).toArray
def valV (b : Bool) (m : MV) : Value := match b, m with
  | true, .b x => .bool x
  | false, .i .i64 n => .int .i64 n
  | _, _ => undef
def valB (b : Bool) (m : MV) : Bool := match b, m with
  | true, .b x => true
  | false, .i .i64 n => true
  | _, _ => false
/-- an entry of a map -/
def EntOK (s : MS) (x : MapEntry) (m : MV) (i : Nat) : Prop :=
  x.born = i ∧ ∃ ks v, m = .tup [.agg ks, v] ∧ fitMs s.lay ks = true ∧ x.key = keyV s.st ks ∧ valB s.b v = true ∧ x.val = valV s.b v
/-- a map: its entries, in the order in which they came -/
structure MapOK (s : MS) (es : Array MapEntry) (clock : Nat) (ms : List MV) : Prop where
  size : es.size = ms.length
  clock : clock = ms.length
  ent : ∀ (i : Nat) x m, es[i]? = some x → ms[i]? = some m → EntOK s x m i
/-- what lies in a block: cells, or a map -/
def ObjRep (e : Env) (o : Obj) (cs : List Leaf) : Prop := match o with
  | .cells arr _ z => z = (0, 0) ∧ LeavesRep e arr.toList cs
  | .map es clock => ∃ s ms, cs = [.mp s ms] ∧ isIt s = false ∧ MapOK s es clock ms
  | .stringIter x pos => cs = [.mp MS.it [.s x.data.toList, .i .i64 pos]]
  | _ => False
/-- a variable's value -/
def bptr (cs : List Leaf) (b : Nat) : Value := bif isMa cs then .map (some b) else .pointer (some ⟨b, 0, none⟩)
/-- a variable of the function's own -/
structure BoxOK (Z : Zone) (e : Env) (w : World) (blk : Nat) (cs : List Leaf) : Prop where
  zone : Z.In blk
  obj : ∃ o, w.heap[blk]? = some o ∧ ObjRep e o cs
  free : ∀ off, e.φ blk off = none
theorem ObjRep.on {S T : Nat → Prop} {e e' : Env} (h : EnvOn S T e e') {o : Obj} {cs : List Leaf} (hl : ∀ l ∈ cs, leafOn S l) (hr : ObjRep e o cs) : ObjRep e' o cs := by
  cases o with
  | cells arr T z => exact ⟨hr.1, hr.2.on h hl⟩
  | map es clock => exact hr
  | stringIter x pos => exact hr
  | _ => exact hr.elim
theorem isMp_mp {cs : List Leaf} (h : isMp cs = true) : ∃ s ms, cs = [.mp s ms] := by
  unfold isMp at h
  split at h
  · exact ⟨_, _, rfl⟩
  · cases h
theorem ObjRep.cells {e : Env} {o : Obj} {cs : List Leaf} (hr : ObjRep e o cs) (hm : isMp cs = false) : ∃ arr T, o = .cells arr T (0, 0) ∧ LeavesRep e arr.toList cs := by
  cases o with
  | cells arr T z => obtain ⟨rfl, h⟩ := hr; exact ⟨arr, T, rfl, h⟩
  | map es clock => obtain ⟨s, ms, rfl, _⟩ := hr; simp [isMp] at hm
  | stringIter x pos => rw [show cs = _ from hr] at hm; simp [isMp] at hm
  | _ => exact hr.elim
theorem isMa_of {cs : List Leaf} (h : isMp cs = false) : isMa cs = false := by
  unfold isMa
  split
  · simp [isMp] at h
  · rfl
theorem isMa_map (g : Leaf → Leaf) (h1 : ∀ s es, g (.mp s es) = .mp s es) (h2 : ∀ l, (∀ s es, l ≠ .mp s es) → ∀ s es, g l ≠ .mp s es) (cs : List Leaf) : isMa (cs.map g) = isMa cs := by
  cases cs with
  | nil => rfl
  | cons l r =>
    cases r with
    | nil =>
      by_cases hl : ∃ s es, l = .mp s es
      · obtain ⟨s, es, rfl⟩ := hl; simp [h1, isMa]
      · have hl' : ∀ s es, l ≠ .mp s es := fun s es e => hl ⟨s, es, e⟩
        have hg := h2 l hl'
        simp only [List.map_cons, List.map_nil]
        have a : isMa [l] = false := by cases l <;> simp_all [isMa]
        have b : isMa [g l] = false := by cases hq : g l <;> simp_all [isMa]
        rw [a, b]
    | cons x y => cases hl : l <;> simp [isMa]
theorem BoxOK.cells {Z : Zone} {e : Env} {w : World} {blk : Nat} {cs : List Leaf} (h : BoxOK Z e w blk cs) (hm : isMp cs = false) : ∃ arr T, w.heap[blk]? = some (.cells arr T (0, 0)) ∧ LeavesRep e arr.toList cs := by
  obtain ⟨o, h1, h2⟩ := h.obj
  obtain ⟨arr, T, rfl, h3⟩ := h2.cells hm
  exact ⟨arr, T, h1, h3⟩
theorem bptr_q {cs : List Leaf} (hm : isMa cs = false) (b : Nat) : bptr cs b = .pointer (some ⟨b, 0, none⟩) := by simp [bptr, hm]
theorem bptr_p {cs : List Leaf} (hm : isMp cs = false) (b : Nat) : bptr cs b = .pointer (some ⟨b, 0, none⟩) := bptr_q (isMa_of hm) b
theorem bptr_m {cs : List Leaf} (hm : isMa cs = true) (b : Nat) : bptr cs b = .map (some b) := by simp [bptr, hm]
theorem ObjRep.map {e : Env} {g : Leaf → Leaf} (hg : ∀ vs l, LeafRep e vs l → LeafRep e vs (g l)) (hm : ∀ s es, g (.mp s es) = .mp s es) {o : Obj} {cs : List Leaf} (hr : ObjRep e o cs) : ObjRep e o (cs.map g) := by
  cases o with
  | cells arr T z => exact ⟨hr.1, hr.2.map hg⟩
  | map es clock => obtain ⟨s, ms, rfl, h2⟩ := hr; exact ⟨s, ms, by simp [hm], h2⟩
  | stringIter x pos => rw [show cs = _ from hr]; show List.map g _ = _; simp [hm]
  | _ => exact hr.elim
theorem isMa_k (f : Nat) (cs : List Leaf) : isMa (cs.map (kLP f)) = isMa cs :=
  isMa_map _ (fun _ _ => rfl) (fun l hl s es => by cases l <;> simp_all [kLP]; rename_i g; cases Nat.beq g f <;> simp) cs
theorem isMa_n (f : List Nat) (cs : List Leaf) : isMa (cs.map (nLP f)) = isMa cs :=
  isMa_map _ (fun _ _ => rfl) (fun l hl s es => by cases l <;> simp_all [nLP]; rename_i g; cases nmem f g <;> simp) cs
/-- a slice of the function's own -/
structure FamOK (c : Ctx) (Z : Zone) (e : Env) (w : World) (v : Value) (o : Own) : Prop where
  row : ∃ I cells, c.ti o.ty = some I ∧ I.comps = [] ∧ w.ownsRow 0 o.ty I.size v o.xs.length cells ∧ ElemsRep e.key e.φ I.size cells o.xs ∧
    ∀ blk, v.ownBlock = some blk → Z.In blk ∧ (∀ off u, e.φ blk off = some u → o.frz = true ∧ off < o.xs.length * I.size) ∧ (Z.cov → o.frz = true → ∀ j, j < cells.length → e.φ blk j = cells[j]?)

/-- whose value says where a variable lies: its own; or, where others own it, the argument's -/
def tied (Z : Zone) (t : Nat) (v : Value) (cs : List Leaf) (b : Nat) : Prop :=
  (psB t = false → v = bptr cs b) ∧ (psB t = true → posOf t ∈ Z.prot ∧ Z.T (posOf t) = .pointer (some ⟨b, offOf t, none⟩))
theorem tied.isMa {Z : Zone} {t : Nat} {v : Value} {cs cs' : List Leaf} {b : Nat} (h : tied Z t v cs b) (hm : isMa cs' = isMa cs) : tied Z t v cs' b := ⟨fun hp => by rw [h.1 hp]; simp [bptr, hm], h.2⟩
theorem tied.own {Z : Zone} {t : Nat} {v : Value} {cs : List Leaf} {b : Nat} (hp : psB t = false) (h : v = bptr cs b) : tied Z t v cs b := ⟨fun _ => h, fun hq => by rw [hp] at hq; cases hq⟩
def SlotAt (Z : Zone) (e : Env) (w : World) (t : Nat) (v : Value) : Slot → Prop
  | .box cs => tied Z t v cs (e.B t) ∧ BoxOK (Z.bz t) e w (e.B t) cs
  | s => SlotRep e v s

def rootOK (fr : Fr) : Slot → Prop
  | .ptr r _ => isBox (fget fr r) = true
  | .hp r _ _ => isBox (fget fr r) = true
  | .mref r => isBox (fget fr r) = true
  | _ => True

structure Sim (c : Ctx) (Z : Zone) (e : Env) (st : St) (a : Act) (w : World) : Prop where
  defers : a.defers = [] ∧ st.prot = Z.prot ∧ st.pfam = Z.pfam ∧ ∀ t ∈ Z.prot, a.tmps.getD t undef = Z.T t
  size : a.tmps.size = c.n
  m : e.m = st.fams
  key : e.key = c.key
  nodup : (keysOf st.fr).Nodup
  slot : ∀ t, SlotAt Z e w t (a.tmps.getD t undef) (fget st.fr t)
  root : ∀ t, rootOK st.fr (fget st.fr t)
  fam : ∀ f o, oget st.fams f = some o → FamOK c (Z.fz f) e w (e.E f) o
  bb : ∀ t t' cs cs', fget st.fr t = .box cs → fget st.fr t' = .box cs' → t ≠ t' → e.B t ≠ e.B t'
  bf : ∀ t cs f o, fget st.fr t = .box cs → oget st.fams f = some o → (e.E f).ownBlock ≠ some (e.B t)
  ff : ∀ f f' o o' k, oget st.fams f = some o → oget st.fams f' = some o' → (e.E f).ownBlock = some k → (e.E f').ownBlock = some k → f = f'
  imm : ∀ b o v, e.φ b o = some v → w.cell? ⟨b, o, none⟩ = some v
  zone : ∀ b, w.heap.size ≤ b → Z.In b

/-- what is no cell of the memory is as it was -/
def Rest (w w' : World) : Prop := w'.os = w.os ∧ w'.tape = w.tape ∧ w'.output = w.output ∧ ∀ a, w'.frozen? a = w.frozen? a
theorem Rest.refl (w : World) : Rest w w := ⟨rfl, rfl, rfl, fun _ => rfl⟩
theorem Rest.trans {w w' w'' : World} (h : Rest w w') (h' : Rest w' w'') : Rest w w'' := ⟨h'.1.trans h.1, h'.2.1.trans h.2.1, h'.2.2.1.trans h.2.2.1, fun a => (h'.2.2.2 a).trans (h.2.2.2 a)⟩
theorem Rest.alloc (w : World) (cs : Array Value) (t : TypeId) : Rest w (w.alloc (.cells cs t)) := by
  refine ⟨rfl, rfl, rfl, fun a => ?_⟩
  by_cases h : a.block = w.heap.size
  · have e1 : (w.alloc (.cells cs t)).heap[a.block]? = some (.cells cs t (0, 0)) := by rw [h]; exact heapNew w _
    have e2 : w.heap[a.block]? = none := by rw [h]; simp
    simp [World.frozen?, e1, e2]
  · exact World.frozen?_alloc_old _ _ _ h
theorem Rest.setRow (w : World) (g : Nat) (cs : Array Value) : Rest w (w.setRow g cs) := by
  refine ⟨rfl, rfl, rfl, fun a => ?_⟩
  by_cases h : a.block = g
  · unfold World.frozen? World.setRow
    simp only [Array.getElem?_modify, h, if_true]
    cases hg : w.heap[g]? with
    | none => rfl
    | some o => cases o <;> rfl
  · exact World.frozen?_of_block (setRow_other _ _ _ _ h)
/-- what was there is as it was -/
structure Grow (w w' : World) : Prop where
  size : w.heap.size ≤ w'.heap.size
  old : ∀ b, b < w.heap.size → w'.heap[b]? = w.heap[b]?
  rest : Rest w w'

theorem lt_of_heap {w : World} {b : Nat} {x : Obj} (h : w.heap[b]? = some x) : b < w.heap.size := (Array.getElem?_eq_some_iff.1 h).1
theorem Grow.cell {w w' : World} (g : Grow w w') {ad : Addr} {v : Value} (h : w.cell? ad = some v) : w'.cell? ad = some v := by
  have hl := World.block_lt_of_cell? w ad h
  rw [World.cell?_of_block (g.old ad.block hl)]; exact h
/-- from one memory to a later one -/
structure Trans (Z : Nat → Prop) (φ : Ph) (w : World) (φ' : Ph) (w' : World) : Prop where
  ph : PhLe φ φ'
  heap : ∀ b, ¬ Z b → b < w.heap.size → w'.heap[b]? = w.heap[b]?
  free : ∀ b o, ¬ Z b → φ' b o = φ b o
  size : w.heap.size ≤ w'.heap.size
  rest : Rest w w'

theorem Trans.refl (Z : Nat → Prop) (φ : Ph) (w : World) : Trans Z φ w φ w := ⟨.refl φ, fun _ _ _ => rfl, fun _ _ _ => rfl, Nat.le_refl _, .refl _⟩
theorem Trans.trans {Z : Nat → Prop} {φ φ' φ'' : Ph} {w w' w'' : World} (h : Trans Z φ w φ' w') (h' : Trans Z φ' w' φ'' w'') : Trans Z φ w φ'' w'' :=
  ⟨h.ph.trans h'.ph, fun b hb hl => (h'.heap b hb (Nat.lt_of_lt_of_le hl h.size)).trans (h.heap b hb hl), fun b o hb => (h'.free b o hb).trans (h.free b o hb), Nat.le_trans h.size h'.size, h.rest.trans h'.rest⟩

/-- what an operation yields: a variable of its own, or another value -/
def NewRep (Z : Zone) (e : Env) (w : World) (st : St) (v : Value) : Slot → Prop
  | .box cs => ∃ blk, v = bptr cs blk ∧ BoxOK Z e w blk cs ∧ (∀ t cs', fget st.fr t = .box cs' → e.B t ≠ blk) ∧ (∀ f o, oget st.fams f = some o → (e.E f).ownBlock ≠ some blk)
  | s => SlotRep e v s ∧ rootOK st.fr s

section
variable {c : Ctx} {Z : Zone} {e : Env} {st : St} {a : Act} {w : World}
theorem SlotRep.const {v : Value} : SlotRep e v (constSlot v) := by
  unfold constSlot
  split <;> simp only [SlotRep, LeafRep, MV.one] <;>
    first
      | exact ⟨trivial, .b _⟩
      | exact ⟨trivial, .i _ _⟩
      | exact ⟨trivial, .s _⟩
      | exact ⟨trivial, .raw _ rfl⟩
theorem Sim.eval (h : Sim c Z e st a w) (x : Operand) : SlotRep e (a.eval x) (evalO c st x) ∧ rootOK st.fr (evalO c st x) := by
  cases x with
  | tmp t =>
    have hs := h.slot t
    have hr := h.root t
    simp only [Act.eval, evalO]
    cases hpl : plk c.par t with
    | some q =>
      simp only
      cases hq : psB q && Nat.beq (posOf q) t with
      | false => exact ⟨by simp [SlotRep], trivial⟩
      | true =>
        simp only [cond_true]
        simp only [Bool.and_eq_true] at hq
        have hqt := Nat.eq_of_beq_eq_true hq.2
        have hsq := h.slot q
        split
        · rename_i cs hfq
          rw [hfq] at hsq
          cases hm : isMp cs with
          | true => exact ⟨by simp [SlotRep], trivial⟩
          | false =>
            obtain ⟨k1, k2⟩ := hsq.1.2 hq.1
            refine ⟨?_, by simp [rootOK, hfq, isBox]⟩
            show a.tmps.getD t undef = _
            rw [← hqt, h.defers.2.2.2 _ k1, k2]
        · exact ⟨by simp [SlotRep], trivial⟩
    | none =>
    simp only
    generalize hf : fget st.fr t = s at hs hr
    cases s <;> simp only [SlotAt] at hs <;> try exact ⟨hs, hr⟩
    · rename_i cs
      cases hpt : psB t with
      | true => simp only [cond_true]; exact ⟨by simp [SlotRep], trivial⟩
      | false =>
      simp only [cond_false]
      cases hm : isMa cs with
      | true => simp only [hm, cond_true, SlotRep, rootOK, hf, isBox]; exact ⟨by rw [hs.1.1 hpt, bptr_m hm], trivial⟩
      | false => simp only [hm, cond_false, SlotRep, rootOK, hf, isBox]; exact ⟨by rw [hs.1.1 hpt, bptr_q hm], trivial⟩
  | const v =>
    refine ⟨SlotRep.const, ?_⟩
    simp only [evalO]
    unfold constSlot
    split <;> trivial
  | func f =>
    simp only [Act.eval, evalO, SlotRep, LeafRep, MV.one, rootOK, and_true, true_and]
    exact .func f _ #[] [] (by rw [h.key]) (by simpa using RepL.nil) (by simp)
  | global g => simp [evalO, SlotRep, rootOK]
end

theorem Act.put_getD {a : Act} {d t : Nat} {v : Value} (hd : d < a.tmps.size) : (a.put (some d) v).tmps.getD t undef = if t = d then v else a.tmps.getD t undef := by
  simp only [Act.put, Array.getD_eq_getD_getElem?, Array.getElem?_setIfInBounds]
  by_cases h : d = t
  · subst h; simp [hd]
  · have h' : ¬ t = d := fun e => h e.symm
    simp [h, h']
theorem rootOK_T {fr : Fr} {s : Slot} (h : rootOK fr s) : slotOn (fun _ => True) (fun r => isBox (fget fr r) = true) s := by
  cases s <;> simp_all [rootOK, slotOn, leafOn]
theorem keysOf_fsetP (r : Fr) (d : Nat) (s : Slot) : keysOf (fsetP r d s) = if d ∈ keysOf r then keysOf r else keysOf r ++ [d] := by
  induction r with
  | nil => simp [fsetP, keysOf]
  | cons p r ih =>
    obtain ⟨k, x⟩ := p
    simp only [fsetP, nbeq]
    by_cases h : k = d
    · simp [h, keysOf]
    · have h' : ¬ d = k := fun e => h e.symm
      have ih' : List.map Prod.fst (fsetP r d s) = if d ∈ keysOf r then keysOf r else keysOf r ++ [d] := ih
      simp only [h, h', decide_false, cond_false, keysOf, List.map_cons, List.mem_cons, false_or, ih']
      by_cases hm : d ∈ keysOf r
      · have hm' : d ∈ List.map Prod.fst r := hm
        simp [hm, hm', keysOf]
      · have hm' : d ∉ List.map Prod.fst r := hm
        simp [hm, hm', keysOf]
theorem nodup_fsetP {r : Fr} {d : Nat} {s : Slot} (h : (keysOf r).Nodup) : (keysOf (fsetP r d s)).Nodup := by
  rw [keysOf_fsetP]
  by_cases hm : d ∈ keysOf r
  · simpa [hm] using h
  · simp only [hm, if_false]
    exact List.nodup_append.2 ⟨h, by simp, by intro x hx y hy; simp at hy; subst hy; intro e; subst e; exact hm hx⟩

section
variable {c : Ctx} {Z : Zone} {e : Env} {st : St} {a : Act} {w : World} {R : Type} {K : St → Option R} {r : R}
/-- another environment that differs in the blocks of variables alone -/
def Env.setB (e : Env) (d blk : Nat) : Env := { e with B := fun t => if t = d then blk else e.B t }
theorem BoxOK.env {e e' : Env} {blk : Nat} {cs : List Leaf} (h : BoxOK Z e w blk cs) (hk : e'.key = e.key) (hp : e'.φ = e.φ) (hE : e'.E = e.E) (hm : e'.m = e.m) : BoxOK Z e' w blk cs := by
  refine ⟨h.zone, ?_, fun off => by rw [hp]; exact h.free off⟩
  obtain ⟨o, h1, h2⟩ := h.obj
  refine ⟨o, h1, h2.on (S := fun _ => True) (T := fun _ => False) ⟨hk, by rw [hp]; exact .refl _, by simp, ?_⟩ (by intro l _ f _; trivial)⟩
  intro f o ho _
  exact ⟨o, by rw [← hm]; exact ho, by rw [hE], rfl⟩
theorem FamOK.env {e e' : Env} {v : Value} {o : Own} (h : FamOK c Z e w v o) (hk : e'.key = e.key) (hp : e'.φ = e.φ) : FamOK c Z e' w v o := by
  obtain ⟨I, cells, h1, h2, h3, h4, h5⟩ := h.row
  exact ⟨I, cells, h1, h2, h3, by rw [hk, hp]; exact h4, by rw [hp]; exact h5⟩
theorem BoxOK.to {blk : Nat} {cs : List Leaf} (h : BoxOK Z e w blk cs) (t : Nat) : BoxOK (Z.bz t) e w blk cs := ⟨.inr h.zone, h.obj, h.free⟩
theorem FamOK.to {v : Value} {o : Own} {f : Nat} (h : FamOK c Z.nc e w v o) (hf : f ∉ Z.pfam) : FamOK c (Z.fz f) e w v o := by
  obtain ⟨I, cells, h1, h2, h3, h4, h5⟩ := h.row
  exact ⟨I, cells, h1, h2, h3, h4, fun blk hb => ⟨.inr (h5 blk hb).1, (h5 blk hb).2.1, fun hc => absurd hc hf⟩⟩
theorem setDst_sim {d : Option Nat} {s : Slot} {v : Value} (h : Sim c Z e st a w) (hv : NewRep Z e w st v s) (hK : setDst c st d s K = some r) :
    ∃ e' st', Sim c Z e' st' (a.put d v) w ∧ K st' = some r ∧ e'.φ = e.φ := by
  cases d with
  | none => exact ⟨e, st, h, hK, rfl⟩
  | some d =>
    simp only [setDst] at hK
    cases hbb : psB d || (Nat.ble c.n d || isBox (fget st.fr d)) with
    | true => simp [hbb] at hK
    | false =>
      obtain ⟨hpsd, hb⟩ := Bool.or_eq_false_iff.1 hbb
      simp only [hbb, cond_false, wr] at hK
      cases hp : nmem st.prot d with
      | true => simp [hp] at hK
      | false =>
        simp only [hp, cond_false, force_eq, fset_eq] at hK
        simp only [Bool.or_eq_false_iff] at hb
        have hdn : d < a.tmps.size := by
          rw [h.size]
          have := hb.1
          by_cases hlt : d < c.n
          · exact hlt
          · have : Nat.ble c.n d = true := Nat.ble_eq_true_of_le (by omega)
            simp_all
        have hdp : d ∉ Z.prot := by
          intro hm
          rw [← h.defers.2.1, ← nmem_iff, hp] at hm; cases hm
        have hdef : ∀ fr : Fr, (a.put (some d) v).defers = [] ∧ ({ st with fr := fr } : St).prot = Z.prot ∧ ({ st with fr := fr } : St).pfam = Z.pfam ∧ ∀ t ∈ Z.prot, (a.put (some d) v).tmps.getD t undef = Z.T t := by
          intro fr
          refine ⟨h.defers.1, h.defers.2.1, h.defers.2.2.1, fun t ht => ?_⟩
          rw [Act.put_getD hdn, if_neg (by intro e; subst e; exact hdp ht)]
          exact h.defers.2.2.2 t ht
        have hroot : ∀ t, slotOn (fun _ => True) (fun r => r ≠ d) (fget st.fr t) := by
          intro t
          have := rootOK_T (h.root t)
          generalize fget st.fr t = x at this
          cases x <;> simp_all [slotOn, leafOn] <;> (intro e; subst e; simp_all)
        by_cases hs : ∃ cs, s = .box cs
        · obtain ⟨cs, rfl⟩ := hs
          obtain ⟨blk, rfl, hbox, hnb, hnf⟩ := hv
          have hon : EnvOn (fun _ => True) (fun r => r ≠ d) e (e.setB d blk) := ⟨rfl, .refl _, fun r hr => by simp [Env.setB, hr], fun f o ho _ => ⟨o, ho, rfl, rfl⟩⟩
          refine ⟨e.setB d blk, _, ?_, hK, rfl⟩
          refine ⟨hdef _, by simpa [Act.put] using h.size, h.m, h.key, nodup_fsetP h.nodup, ?_, ?_, ?_, ?_, ?_, ?_, h.imm, h.zone⟩
          · intro t
            rw [Act.put_getD hdn, fget_fsetP]
            by_cases ht : t = d
            · subst ht
              simp only [if_true, SlotAt, Env.setB]
              exact ⟨.own hpsd rfl, (hbox.to t).env rfl rfl rfl rfl⟩
            · simp only [ht, if_false]
              have hsl := h.slot t
              have hrt := hroot t
              generalize fget st.fr t = x at hsl hrt
              cases x <;> simp only [SlotAt] at hsl ⊢ <;> try exact hsl.on hon hrt
              simp only [Env.setB, ht, if_false]
              exact ⟨hsl.1, hsl.2.env rfl rfl rfl rfl⟩
          · intro t
            simp only [fget_fsetP]
            by_cases ht : t = d
            · simp [ht, rootOK]
            · simp only [ht, if_false]
              have hrt := h.root t
              have hr2 := hroot t
              generalize fget st.fr t = x at hrt hr2
              cases x <;> simp_all [rootOK, fget_fsetP, slotOn]
          · intro f o ho; exact (h.fam f o ho).env rfl rfl
          · intro t t' cs1 cs2 h1 h2 hne
            simp only [fget_fsetP] at h1 h2
            simp only [Env.setB]
            by_cases ht : t = d
            · by_cases ht' : t' = d
              · exact absurd (ht.trans ht'.symm) hne
              · simp only [ht', if_false] at h2
                simp only [ht, ht', if_true, if_false]
                exact fun e => hnb t' cs2 h2 e.symm
            · simp only [ht, if_false] at h1
              by_cases ht' : t' = d
              · simp only [ht, ht', if_true, if_false]
                exact hnb t cs1 h1
              · simp only [ht', if_false] at h2
                simp only [ht, ht', if_false]
                exact h.bb t t' cs1 cs2 h1 h2 hne
          · intro t cs1 f o h1 h2
            simp only [fget_fsetP] at h1
            simp only [Env.setB]
            by_cases ht : t = d
            · simp only [ht, if_true]; exact hnf f o h2
            · simp only [ht, if_false] at h1 ⊢; exact h.bf t cs1 f o h1 h2
          · exact h.ff
        · have hv' : SlotRep e v s ∧ rootOK st.fr s := by
            cases s <;> simp_all [NewRep]
          refine ⟨e, _, ?_, hK, rfl⟩
          refine ⟨hdef _, by simpa [Act.put] using h.size, h.m, h.key, nodup_fsetP h.nodup, ?_, ?_, h.fam, ?_, ?_, h.ff, h.imm, h.zone⟩
          · intro t
            rw [Act.put_getD hdn, fget_fsetP]
            by_cases ht : t = d
            · simp only [ht, if_true]
              cases s <;> simp only [SlotAt] <;> first | exact hv'.1 | exact absurd ⟨_, rfl⟩ hs
            · simp only [ht, if_false]; exact h.slot t
          · intro t
            simp only [fget_fsetP]
            by_cases ht : t = d
            · simp only [ht, if_true]
              have hr := hv'.2
              cases s <;> simp only [rootOK, fget_fsetP] at hr ⊢
              · rename_i r o
                by_cases hrd : r = d
                · subst hrd; simp_all
                · simp only [hrd, if_false]; exact hr
              · rename_i r
                by_cases hrd : r = d
                · subst hrd; simp_all
                · simp only [hrd, if_false]; exact hr
              · rename_i r o i
                by_cases hrd : r = d
                · subst hrd; simp_all
                · simp only [hrd, if_false]; exact hr
            · simp only [ht, if_false]
              have hrt := h.root t
              have hr2 := hroot t
              generalize fget st.fr t = x at hrt hr2
              cases x <;> simp_all [rootOK, fget_fsetP, slotOn]
          · intro t t' cs1 cs2 h1 h2 hne
            simp only [fget_fsetP] at h1 h2
            by_cases ht : t = d
            · simp only [ht, if_true] at h1; exact absurd ⟨_, h1⟩ hs
            · by_cases ht' : t' = d
              · simp only [ht', if_true] at h2; exact absurd ⟨_, h2⟩ hs
              · simp only [ht, ht', if_false] at h1 h2
                exact h.bb t t' cs1 cs2 h1 h2 hne
          · intro t cs1 f o h1 h2
            simp only [fget_fsetP] at h1
            by_cases ht : t = d
            · simp only [ht, if_true] at h1; exact absurd ⟨_, h1⟩ hs
            · simp only [ht, if_false] at h1; exact h.bf t cs1 f o h1 h2
end

end Dn
/-
  Operations that change no memory: moves, numbers, texts, places. Conditions: none.
-/
set_option linter.unusedSimpArgs false
set_option linter.unusedVariables false
namespace Dn
open Go

/-- what is reached: the state that the rest goes on from -/
def Out (c : Ctx) (Z : Zone) {R : Type} (K : St → Option R) (r : R) (φ : Ph) (w : World) (a' : Act) (w' : World) : Prop :=
  ∃ e' st', Sim c Z e' st' a' w' ∧ Trans Z φ w e'.φ w' ∧ K st' = some r

section
variable {P : Program} {c : Ctx} {Z : Zone} {e : Env} {st : St} {a : Act} {w : World} {R : Type} {K : St → Option R} {r : R} {Q : Exit → Act → World → Prop} {o : Oper}

theorem NewRep.of {s : Slot} {v : Value} (h : SlotRep e v s) (hr : rootOK st.fr s) : NewRep Z e w st v s := by
  cases s <;> first | exact ⟨h, hr⟩ | (simp [SlotRep] at h)

theorem fin {e' : Env} {st' : St} {w' : World} {s : Slot} {v : Value} (hrun : (execOp a.eval o).run P w = .ok (.value v) w') (hs : Sim c Z e' st' a w')
    (ht : Trans Z e.φ w e'.φ w') (hv : NewRep Z e' w' st' v s) (hK : setDst c st' o.dst s K = some r) : o.wp P a w (Out c Z K r e.φ w) Q := by
  unfold Oper.wp
  rw [hrun, Oper.upon_value]
  obtain ⟨e2, st2, h1, h2, h3⟩ := setDst_sim hs hv hK
  exact ⟨e2, st2, h1, by rw [h3]; exact ht, h2⟩
theorem finSkip {e' : Env} {st' : St} {w' : World} (hrun : (execOp a.eval o).run P w = .ok .skip w') (hs : Sim c Z e' st' a w')
    (ht : Trans Z e.φ w e'.φ w') (hK : setDst c st' o.dst (.sc .un) K = some r) : o.wp P a w (Out c Z K r e.φ w) Q := by
  unfold Oper.wp
  rw [hrun, Oper.upon_skip]
  obtain ⟨e2, st2, h1, h2, h3⟩ := setDst_sim (v := undef) hs (by simp [NewRep, SlotRep, rootOK]) hK
  exact ⟨e2, st2, h1, by rw [h3]; exact ht, h2⟩
/-- .. where memory only grows -/
theorem finG {e' : Env} {st' : St} {w' : World} {s : Slot} {v : Value} (hg : Grow w w') (hrun : (execOp a.eval o).run P w = .ok (.value v) w') (hs : Sim c Z e' st' a w')
    (ht : Trans Z e.φ w e'.φ w') (hv : NewRep Z e' w' st' v s) (hK : setDst c st' o.dst s K = some r) : o.wp P a w (fun a' w' => Grow w w' ∧ Out c Z K r e.φ w a' w') Q := by
  unfold Oper.wp
  rw [hrun, Oper.upon_value]
  obtain ⟨e2, st2, h1, h2, h3⟩ := setDst_sim hs hv hK
  exact ⟨hg, e2, st2, h1, by rw [h3]; exact ht, h2⟩
/-- an operation that changes no memory, and yields the same in whatever memory of a kind -/
def Rd (P : Program) (c : Ctx) (Z : Zone) {R : Type} (K : St → Option R) (r : R) (e : Env) (a : Act) (w : World) (o : Oper) (G : World → Prop) : Prop :=
  ∃ v, (∀ w', G w' → (execOp a.eval o).run P w' = .ok (.value v) w') ∧ Out c Z K r e.φ w (a.put o.dst v) w
theorem Rd.wp {G : World → Prop} (h : Rd P c Z K r e a w o G) (hg : G w) : o.wp P a w (Out c Z K r e.φ w) Q := by
  obtain ⟨v, h1, h2⟩ := h
  unfold Oper.wp
  rw [h1 w hg, Oper.upon_value]; exact h2
theorem finR {G : World → Prop} {e' : Env} {st' : St} {s : Slot} {v : Value} (hrun : ∀ w' : World, G w' → (execOp a.eval o).run P w' = .ok (.value v) w') (hs : Sim c Z e' st' a w)
    (ht : Trans Z e.φ w e'.φ w) (hv : NewRep Z e' w st' v s) (hK : setDst c st' o.dst s K = some r) : Rd P c Z K r e a w o G := by
  obtain ⟨e2, st2, h1, h2, h3⟩ := setDst_sim hs hv hK
  exact ⟨v, hrun, e2, st2, h1, by rw [h3]; exact ht, h2⟩
/-- a value that is there already, or is reckoned out of such ones -/
theorem fin0 {s : Slot} {v : Value} (h : Sim c Z e st a w) (hrun : ∀ w' : World, (execOp a.eval o).run P w' = .ok (.value v) w') (hv : SlotRep e v s) (hr : rootOK st.fr s)
    (hK : setDst c st o.dst s K = some r) : Rd P c Z K r e a w o (fun _ => True) :=
  finR (fun w' _ => hrun w') h (.refl _ _ _) (.of hv hr) hK

/-! ### what a slot says of its value -/
theorem rep_b {v : Value} {x : Bool} (h : SlotRep e v (.sc (.p (.b x)))) : v = .bool x := by
  simp only [SlotRep, LeafRep] at h
  obtain ⟨_, h⟩ := h
  generalize hv : [v] = vs at h
  cases h; simpa using hv
theorem rep_i {v : Value} {k : IntKind} {n : Int} (h : SlotRep e v (.sc (.p (.i k n)))) : v = .int k n := by
  simp only [SlotRep, LeafRep] at h
  obtain ⟨_, h⟩ := h
  generalize hv : [v] = vs at h
  cases h; simpa using hv
theorem rep_s {v : Value} {l : List UInt8} (h : SlotRep e v (.sc (.p (.s l)))) : ∃ b : ByteArray, v = .string b ∧ l = b.data.toList := by
  simp only [SlotRep, LeafRep] at h
  obtain ⟨_, h⟩ := h
  generalize hv : [v] = vs at h
  cases h
  exact ⟨_, by simpa using hv, rfl⟩
theorem mk_b (x : Bool) : SlotRep e (.bool x) (.sc (.p (.b x))) := by simp only [SlotRep, LeafRep]; exact ⟨rfl, .b x⟩
theorem mk_i (k : IntKind) (n : Int) : SlotRep e (.int k n) (.sc (.p (.i k n))) := by simp only [SlotRep, LeafRep]; exact ⟨rfl, .i k n⟩
theorem mk_s (b : ByteArray) : SlotRep e (.string b) (.sc (.p (.s b.data.toList))) := by simp only [SlotRep, LeafRep]; exact ⟨rfl, .s b⟩

theorem rep_raw {v u : Value} (h : SlotRep e v (.sc (.p (.raw u)))) : v = u := by
  simp only [SlotRep, LeafRep] at h
  obtain ⟨_, h⟩ := h
  generalize hv : [v] = vs at h
  cases h; simpa using hv
theorem mk_raw (u : Value) (h : u.oneCell' = true) : SlotRep e u (.sc (.p (.raw u))) := by simp only [SlotRep, LeafRep]; exact ⟨rfl, .raw u h⟩
theorem op_move {x : Operand} (ho : o.op = .move x ∨ o.op = .assign x) (h : Sim c Z e st a w) (hK : setDst c st o.dst (evalO c st x) K = some r) :
    Rd P c Z K r e a w o (fun _ => True) := by
  obtain ⟨h1, h2⟩ := h.eval x
  refine fin0 h ?_ h1 h2 hK
  rcases ho with ho | ho <;> simp [execOp, ho]

theorem op_nilCheck {x : Operand} (ho : o.op = .nilCheck x) (h : Sim c Z e st a w)
    (hK : nilK (evalO c st x) (fun s => setDst c st o.dst s K) = some r) : Rd P c Z K r e a w o (fun _ => True) := by
  obtain ⟨h1, h2⟩ := h.eval x
  unfold nilK at hK
  split at hK
  · rename_i heq
    rw [heq] at h1 h2
    refine fin0 h ?_ (v := a.eval x) h1 h2 hK
    simp only [SlotRep] at h1
    simp [execOp, ho, h1]
  · rename_i heq
    rw [heq] at h1 h2
    refine fin0 h ?_ (v := a.eval x) h1 h2 hK
    simp only [SlotRep] at h1
    obtain ⟨blk, q, vs, h1', h3⟩ := h1
    simp [execOp, ho, h1']
  · simp at hK

theorem op_pick {x y z : Operand} (ho : o.op = .pick x y z) (h : Sim c Z e st a w)
    (hK : pickK (evalO c st x) (evalO c st y) (evalO c st z) (fun s => setDst c st o.dst s K) = some r) : Rd P c Z K r e a w o (fun _ => True) := by
  obtain ⟨hx, _⟩ := h.eval x
  obtain ⟨hy, hy2⟩ := h.eval y
  obtain ⟨hz, hz2⟩ := h.eval z
  have hrun : ∀ v, a.eval x = .bool v → ∀ w : World, (execOp a.eval o).run P w = .ok (.value (if v then a.eval y else a.eval z)) w := by
    intro v hv w; simp [execOp, ho, hv, asBool]
  unfold pickK at hK
  split at hK
  · rename_i v hv
    have hxv := rep_b (by rw [hv] at hx; exact hx)
    have hr := hrun v hxv
    split at hK
    · rename_i p q hp hq
      rw [hp] at hy; rw [hq] at hz
      simp only [rep_b hy, rep_b hz] at hr
      refine fin0 h hr ?_ (s := .sc (.p (.b (bif v then p else q)))) trivial hK
      cases v
      · exact mk_b q
      · exact mk_b p
    · cases v
      · exact fin0 h hr hz hz2 hK
      · exact fin0 h hr hy hy2 hK
  · simp at hK

theorem op_unOp {op : UnOp} {ty : TypeId} {x : Operand} (ho : o.op = .unOp op ty x) (h : Sim c Z e st a w)
    (hK : unK op (evalO c st x) (fun s => setDst c st o.dst s K) = some r) : Rd P c Z K r e a w o (fun _ => True) := by
  obtain ⟨hx, _⟩ := h.eval x
  generalize evalO c st x = s at hx hK
  unfold unK at hK
  split at hK
  · refine fin0 h ?_ (mk_b _) trivial hK
    simp [execOp, ho, rep_b hx, Op.unary]
  · refine fin0 h ?_ (mk_i _ _) trivial hK
    simp [execOp, ho, rep_i hx, Op.unary, Op.intArith]
  · simp at hK
end

end Dn
/-
  The type table; numbers, texts, places, loads. Conditions: none.
-/
set_option linter.unusedSimpArgs false
set_option linter.unusedVariables false
namespace Dn
open Go

/-- what a row of the type table says is so -/
def layW : List Kd → Nat
  | [] => 0
  | .h :: r => 32 + layW r
  | _ :: r => 1 + layW r
def RowD (ti : Nat → Option TI) (P : Program) (I : TI) (z : Option Value) : TypeDesc → Prop
  | .struct fs => I.st = true ∧ I.comps = [] ∧ (0 < I.size ∧ layW I.lay = I.size) ∧ fs.toList.map (·.offset) = I.flds ∧ fs.toList.map (·.type) = I.ftys ∧
      (∀ (k : Nat) (f : Field), fs[k]? = some f → ∃ J, ti f.type = some J ∧ J.comps = [] ∧ 0 < J.size) ∧
      ∃ cs, z = some (.agg cs) ∧ leavesZ I.zero cs.toList = true ∧ cs.size = I.size
  | .tuple ts => I.comps = ts.toList ∧ I.comps ≠ [] ∧ I.lay = [] ∧ I.st = false
  | .slice el => I.st = false ∧ I.comps = [] ∧ I.size = 1 ∧ I.elem = el ∧ (∃ E, ti el = some E ∧ E.comps = [] ∧ 0 < E.size) ∧ z = some (.slice none 0 0) ∧ I.zero = [.nil] ∧ (∃ k, I.lay = [k] ∧ k = .l)
  | .array n el => I.st = false ∧ I.comps = [] ∧ I.size = 32 ∧ n = 32 ∧ I.elem = el ∧ (∃ i, P.underlying el = some (.int .u8) ∧ P.info? el = some i ∧ i.size = 1) ∧ I.lay = [.h] ∧ I.zero = [.hs Hash.zero] ∧ z = some (.agg (hcells Hash.zero).toArray)
  | .bool => I.st = false ∧ I.comps = [] ∧ I.size = 1 ∧ I.lay = [.b] ∧ I.zero = [.p (.b false)] ∧ z = some (.bool false)
  | .int k => I.st = false ∧ I.comps = [] ∧ I.size = 1 ∧ I.lay = [.i k] ∧ I.zero = [.p (.i k 0)] ∧ z = some (.int k 0)
  | .string => I.st = false ∧ I.comps = [] ∧ I.size = 1 ∧ I.lay = [.s] ∧ I.zero = [.p (.s [])] ∧ ∃ b : ByteArray, z = some (.string b) ∧ b.data.toList = []
  | _ => I.st = false ∧ I.comps = [] ∧ I.size = 1 ∧ I.lay = [.raw] ∧ ∃ v, z = some v ∧ v.oneCell' = true ∧ leavesZ I.zero [v] = true
def RowOK (ti : Nat → Option TI) (P : Program) (t : Nat) (I : TI) : Prop :=
  ∃ d i, P.underlying t = some d ∧ P.info? t = some i ∧ (I.comps = [] → i.size = I.size ∧ i.bytes = I.bytes) ∧ RowD ti P I i.zero d
def TIok (P : Program) (ti : Nat → Option TI) : Prop := ∀ t I, ti t = some I → RowOK ti P t I

section
variable {P : Program} {c : Ctx} {Z : Zone} {e : Env} {st : St} {a : Act} {w : World} {R : Type} {K : St → Option R} {r : R} {Q : Exit → Act → World → Prop} {o : Oper}

theorem chk_some {x : Bool} {k : Option R} (h : chk x k = some r) : x = true ∧ k = some r := by
  cases x
  · simp [chk] at h
  · exact ⟨rfl, h⟩
theorem bd_some {α : Type} {x : Option α} {k : α → Option R} (h : bd x k = some r) : ∃ y, x = some y ∧ k y = some r := by
  cases x with
  | none => simp [bd] at h
  | some y => exact ⟨y, rfl, h⟩
theorem idx_some {l : List MV} {i : Int} {k : MV → Option R} (h : idx l i k = some r) : 0 ≤ i ∧ ∃ y, l[i.toNat]? = some y ∧ k y = some r := by
  unfold idx idxO at h
  by_cases hi : 0 ≤ i
  · simp only [hi, if_true] at h
    cases hl : l[i.toNat]? with
    | none => simp [hl] at h
    | some y => exact ⟨hi, y, rfl, by simpa [hl] using h⟩
  · simp [hi] at h
/-- an aggregate? -/
theorem RowOK.agg {ti : Nat → Option TI} {t : Nat} {I : TI} (h : RowOK ti P t I) (hc : I.comps = []) :
    (∃ d, P.underlying t = some d ∧ d.isRow = true ∧ (I.st = true ∨ I.st = false ∧ I.size = 32)) ∨ (∃ d, P.underlying t = some d ∧ d.isRow = false ∧ I.st = false ∧ I.size = 1) := by
  obtain ⟨d, i, h1, h2, h3, h4⟩ := h
  cases d <;> simp only [RowD] at h4 <;> first
    | exact .inl ⟨_, h1, rfl, .inl h4.1⟩
    | exact .inl ⟨_, h1, rfl, .inr ⟨h4.1, h4.2.2.1⟩⟩
    | exact .inr ⟨_, h1, rfl, h4.1, h4.2.2.1⟩
    | exact absurd hc h4.2.1
theorem RowOK.info {ti : Nat → Option TI} {t : Nat} {I : TI} (h : RowOK ti P t I) (hc : I.comps = []) :
    ∃ i, P.info? t = some i ∧ i.size = I.size ∧ i.bytes = I.bytes := by
  obtain ⟨d, i, h1, h2, h3, h4⟩ := h
  exact ⟨i, h2, h3 hc⟩

theorem tv_some {t : Nat} {I : TI} (h : c.tv t = some I) : c.ti t = some I ∧ I.comps = [] := by
  unfold Ctx.tv at h
  cases hc : c.ti t with
  | none => simp [hc] at h
  | some J =>
    cases hj : J.comps with
    | nil => simp [hc, hj] at h; subst h; exact ⟨rfl, hj⟩
    | cons x y => simp [hc, hj] at h

theorem op_convert {s t : TypeId} {x : Operand} {I : TI} (ho : o.op = .convert s t x) (hI : c.ti t = some I) (hT : TIok P c.ti) (hs : ∃ d, P.underlying s = some d) {fk : Option FloatKind} (hfk : ∀ k, fk = some k → P.underlying t = some (.float k)) (h : Sim c Z e st a w)
    (hK : convK I fk (evalO c st x) (fun s => setDst c st o.dst s K) = some r) : Rd P c Z K r e a w o (fun _ => True) := by
  obtain ⟨hx, _⟩ := h.eval x
  obtain ⟨ds, hds⟩ := hs
  obtain ⟨d, i, h1, h2, h3, h4⟩ := hT t I hI
  generalize evalO c st x = s' at hx hK
  unfold convK at hK
  split at hK
  · rename_i k k' n hst hcm hl
    have hd : d = .int k := by
      cases d <;> simp only [RowD, hl, hst, hcm] at h4 <;> simp_all
    subst hd
    refine fin0 h ?_ (mk_i _ _) trivial hK
    simp [execOp, ho, rep_i hx, convert, run_underlying hds, run_underlying h1, Conv.intToInt]
  · rename_i l hst hcm hl
    have hd : d = .string := by
      cases d <;> simp only [RowD, hl, hst, hcm] at h4 <;> simp_all
    subst hd
    obtain ⟨b, hb, rfl⟩ := rep_s hx
    refine fin0 h ?_ (mk_s b) trivial hK
    simp [execOp, ho, hb, convert, run_underlying hds, run_underlying h1]
  · rename_i k x hst hcm hl
    have hd : d = .int k := by
      cases d <;> simp only [RowD, hl, hst, hcm] at h4 <;> simp_all
    subst hd
    obtain ⟨n, hn, hK⟩ := bd_some hK
    obtain ⟨hr, hK⟩ := chk_some hK
    have hr := of_decide_eq_true hr
    refine fin0 h ?_ (mk_i _ _) trivial hK
    simp [execOp, ho, rep_raw hx, convert, run_underlying hds, run_underlying h1, Conv.floatToInt, hn, hr]
  · rename_i k n hst hcm hl
    split at hK
    · have h1' := hfk _ rfl
      refine fin0 h ?_ (mk_raw _ rfl) trivial hK
      simp [execOp, ho, rep_i hx, convert, run_underlying hds, run_underlying h1', Conv.intToFloat]
    · simp at hK
  · simp at hK

theorem run_int {op : BinOp} {k : IntKind} {x y : Int} {m : MV} {t : TypeId} (hm : intOp op k x y = some m) :
    ∃ v, (∀ w : World, (binOp op t (.int k x) (.int k y)).run P w = .ok v w) ∧ SlotRep e v (.sc (.p m)) := by
  cases op <;> simp only [intOp, Option.some.injEq, reduceCtorEq] at hm <;> subst hm
  · exact ⟨_, by simp [binOp, Op.intArith], mk_i _ _⟩
  · exact ⟨_, by simp [binOp, Op.intArith], mk_i _ _⟩
  · exact ⟨_, by simp [binOp, Op.intArith], mk_i _ _⟩
  · exact ⟨.int k (bAnd k x y), fun w => by simp [binOp]; rfl, mk_i _ _⟩
  · exact ⟨.int k (bOr k x y), fun w => by simp [binOp]; rfl, mk_i _ _⟩
  · exact ⟨.int k (bXor k x y), fun w => by simp [binOp]; rfl, mk_i _ _⟩
  · refine ⟨.bool (decide (x = y)), fun w => ?_, mk_b _⟩; simp [binOp, Op.intCmp]; rfl
  · refine ⟨.bool (!decide (x = y)), fun w => ?_, mk_b _⟩; simp [binOp, Op.intCmp]; rfl
  · exact ⟨.bool (decide (x < y)), by simp [binOp, Op.intCmp], mk_b _⟩
  · exact ⟨.bool (decide (x ≤ y)), by simp [binOp, Op.intCmp], mk_b _⟩
  · exact ⟨.bool (decide (y < x)), by simp [binOp, Op.intCmp], mk_b _⟩
  · exact ⟨.bool (decide (y ≤ x)), by simp [binOp, Op.intCmp], mk_b _⟩

theorem toList_data (b : ByteArray) : b.toList = b.data.toList := by
  exact ByteArray.toList_eq b
theorem run_str {op : BinOp} {x y : ByteArray} {m : MV} {t : TypeId} (hm : strCmp op x.data.toList y.data.toList = some m) :
    ∃ v, (∀ w : World, (binOp op t (.string x) (.string y)).run P w = .ok v w) ∧ SlotRep e v (.sc (.p m)) := by
  have hbeq : (x.data.toList == y.data.toList) = decide (x.data.toList = y.data.toList) := by
    rw [Bool.eq_iff_iff]; simp
  cases op <;> simp only [strCmp, Option.some.injEq, reduceCtorEq] at hm <;> subst hm <;>
    exact ⟨_, fun w => by simp only [binOp, Op.stringOp, toList_data, hbeq]; rfl, mk_b _⟩

theorem bytes_get (b : ByteArray) (n : Nat) : b[n]? = b.data.toList[n]? := by
  by_cases h : n < b.size
  · have h2 : n < b.data.toList.length := by simpa using h
    rw [getElem?_pos b n h, List.getElem?_eq_getElem h2]
    rfl
  · have h2 : ¬ n < b.data.toList.length := by simpa using h
    rw [getElem?_neg b n h, List.getElem?_eq_none (by omega)]
theorem hcells_get (x : Hash) (n : Nat) (h : n < 32) : (hcells x)[n]? = some (.int .u8 ((x.l.getD n 0).toNat : Int)) := by
  have hl : n < x.l.length := by rw [x.h]; exact h
  simp [hcells, List.getElem?_map, List.getD, List.getElem?_eq_getElem hl]

theorem op_ix {t : TypeId} {x y : Operand} {I : TI} (ho : o.op = .index t x y) (hI : c.ti t = some I) (hT : TIok P c.ti) (h : Sim c Z e st a w)
    (hK : ixK I (evalO c st x) (evalO c st y) (fun s => setDst c st o.dst s K) = some r) : Rd P c Z K r e a w o (fun _ => True) := by
  obtain ⟨hx, _⟩ := h.eval x
  obtain ⟨hy, _⟩ := h.eval y
  obtain ⟨d, i, h1, h2, h3, h4⟩ := hT t I hI
  generalize evalO c st x = sx at hx hK
  generalize evalO c st y = sy at hy hK
  unfold ixK at hK
  split at hK
  · rename_i l k n hst hl
    have hd : d = .string := by
      cases d <;> simp only [RowD, hl, hst] at h4 <;> simp_all
    subst hd
    cases hc : decide ((0 : Int) ≤ n ∧ n < (l.length : Int)) with
    | false => simp [chk, hc] at hK
    | true =>
      simp only [chk, hc] at hK
      obtain ⟨hn0, hn1⟩ := of_decide_eq_true hc
      obtain ⟨b, hb, rfl⟩ := rep_s hx
      have hlt : n.toNat < b.data.toList.length := by omega
      refine fin0 h ?_ (mk_i .u8 ((b.data.toList.getD n.toNat 0).toNat : Int)) trivial hK
      have hg : b[n.toNat]? = some (b.data.toList.getD n.toNat 0) := by
        rw [bytes_get, List.getElem?_eq_getElem hlt]; simp [List.getD, List.getElem?_eq_getElem hlt]
      simp [execOp, ho, hb, rep_i hy, Instr.index, run_underlying h1, asIntOf, hn0, hg]
  · rename_i b k n hst hl
    cases d <;> simp only [RowD, hl, hst] at h4 <;> first | (exfalso; simp_all; done) | skip
    rename_i len el
    cases hc : decide ((0 : Int) ≤ n ∧ n < 32) with
    | false => simp [chk, hc] at hK
    | true =>
      simp only [chk, hc] at hK
      obtain ⟨hn0, hn1⟩ := of_decide_eq_true hc
      simp only [SlotRep] at hx
      obtain ⟨_, _, _, rfl, _, ⟨ie, hu, hie, hs1⟩, _⟩ := h4
      refine fin0 h ?_ (mk_i .u8 ((b.l.getD n.toNat 0).toNat : Int)) trivial hK
      have hg := hcells_get b n.toNat (by omega)
      have hg' : (hcells b).toArray[n.toNat]? = some (.int .u8 ((b.l.getD n.toNat 0).toNat : Int)) := by simpa using hg
      simp [execOp, ho, hx, rep_i hy, Instr.index, run_underlying h1, asIntOf, hn0, hn1, Go.part, isAgg, run_underlying hu, Go.sizeOf, typeInfo, hie, hs1, hg, hg']
  · simp at hK

/-- values of a type are compared leaf by leaf -/
def EqOK (P : Program) (ti : Nat → Option TI) : Prop := ∀ t I, ti t = some I → I.comps = [] → ∀ (e : Env) (w : World) (vx vy : Value) (sx sy : Slot) (b : Bool), SlotRep e vx sx → SlotRep e vy sy →
  fitLs I.lay (slotLeaves sx) = true → fitLs I.lay (slotLeaves sy) = true → shapeB I.st sx = true → shapeB I.st sy = true → eqLeaves (slotLeaves sx) (slotLeaves sy) = some b →
  (∀ k n k' n', sx = .sc (.p (.i k n)) → sy = .sc (.p (.i k' n')) → False) → (∀ l l', sx = .sc (.p (.s l)) → sy = .sc (.p (.s l')) → False) →
  (Op.equal t vx vy).run P w = .ok b w ∧ ∀ (x y : Operand) (op : BinOp), (eqGuard op t x y vx vy).run P w = .ok () w ∧ (op = .eql → binOp op t vx vy = (do pure (.bool (← Op.equal t vx vy)))) ∧ (op = .neq → binOp op t vx vy = (do pure (.bool (!(← Op.equal t vx vy)))))

theorem op_binOp {op : BinOp} {t t' : TypeId} {x y : Operand} (ho : o.op = .binOp op t x y t') (h : Sim c Z e st a w)
    (hE : EqOK P c.ti)
    (hK : binK (c.tv t) op (evalO c st x) (evalO c st y) (fun s => setDst c st o.dst s K) = some r) : Rd P c Z K r e a w o (fun _ => True) := by
  obtain ⟨hx, _⟩ := h.eval x
  obtain ⟨hy, _⟩ := h.eval y
  generalize hsx : evalO c st x = sx at hx hK
  generalize hsy : evalO c st y = sy at hy hK
  have hrun : ∀ v, (∀ w : World, (binOp op t (a.eval x) (a.eval y)).run P w = .ok v w) → (∀ cs, a.eval x ≠ .agg cs) → a.eval x ≠ .nilIface → ∀ w : World, (execOp a.eval o).run P w = .ok (.value v) w := by
    intro v hv hna hni w
    have hg : (eqGuard op t x y (a.eval x) (a.eval y)).run P w = .ok () w := by
      generalize a.eval x = va at hna hni
      generalize a.eval y = vb
      have hm : ∀ (u v : Value), u = va → (∀ cs, u ≠ .agg cs) → u ≠ .nilIface → (eqGuard op t x y u v).run P w = .ok () w := by
        intro u v _ h1 h2
        cases u <;> first
          | exact absurd rfl h2
          | exact absurd rfl (h1 _)
          | (cases op <;> rfl)
      exact hm va vb rfl hna hni
    simp [execOp, ho, hg, hv]
  unfold binK at hK
  split at hK
  · rename_i k n k' n'
    have e1 := rep_i hx
    have e2 := rep_i hy
    split at hK
    · cases hk : decide (k = k') with
      | false => simp [hk] at hK
      | true =>
        have hk := of_decide_eq_true hk
        subst hk
        simp only [decide_true, cond_true] at hK
        cases hz : decide (n' = 0) with
        | true => simp [chk, hz] at hK
        | false =>
          simp only [chk, hz, Bool.not_false] at hK
          have hz := of_decide_eq_false hz
          refine fin0 h (hrun _ ?_ (by simp [e1]) (by simp [e1])) (mk_i _ _) trivial hK
          simp [binOp, e1, e2, Op.intDiv, hz]
    · cases hk : decide (k = k') with
      | false => simp [hk] at hK
      | true =>
        have hk := of_decide_eq_true hk
        subst hk
        simp only [decide_true, cond_true] at hK
        cases hz : decide (n' = 0) with
        | true => simp [chk, hz] at hK
        | false =>
          simp only [chk, hz, Bool.not_false] at hK
          have hz := of_decide_eq_false hz
          refine fin0 h (hrun _ ?_ (by simp [e1]) (by simp [e1])) (mk_i _ _) trivial hK
          simp [binOp, e1, e2, Op.intDiv, hz]
    · cases hz : decide ((0 : Int) ≤ n') with
      | false => simp [chk, hz] at hK
      | true =>
        simp only [chk, hz] at hK
        have hz := of_decide_eq_true hz
        refine fin0 h (hrun _ ?_ (by simp [e1]) (by simp [e1])) (mk_i _ _) trivial hK
        have : ¬ n' < 0 := by omega
        simp [binOp, e1, e2, Op.shift, this]
    · cases hz : decide ((0 : Int) ≤ n') with
      | false => simp [chk, hz] at hK
      | true =>
        simp only [chk, hz] at hK
        have hz := of_decide_eq_true hz
        refine fin0 h (hrun _ ?_ (by simp [e1]) (by simp [e1])) (mk_i _ _) trivial hK
        have : ¬ n' < 0 := by omega
        simp [binOp, e1, e2, Op.shift, this]
    · cases hk : decide (k = k') with
      | false => simp [hk] at hK
      | true =>
        have hk := of_decide_eq_true hk
        subst hk
        simp only [decide_true, cond_true] at hK
        cases hm : intOp op k n n' with
        | none => simp [hm] at hK
        | some m =>
          simp only [hm] at hK
          obtain ⟨v, hv, hr⟩ := run_int (P := P) (e := e) (t := t) hm
          exact fin0 h (hrun v (by rw [e1, e2]; exact hv) (by simp [e1]) (by simp [e1])) hr trivial hK
  · rename_i l l'
    obtain ⟨b, hb, rfl⟩ := rep_s hx
    obtain ⟨b', hb', rfl⟩ := rep_s hy
    split at hK
    · obtain ⟨hz, hK⟩ := chk_some hK
      · have hz := of_decide_eq_true hz
        have hr : SlotRep e (.string (b ++ b')) (.sc (.p (.s (b.data.toList ++ b'.data.toList)))) := by
          have := mk_s (e := e) (b ++ b')
          simpa [ByteArray.data_append] using this
        refine fin0 h (hrun _ ?_ (by simp [hb]) (by simp [hb])) hr trivial hK
        have hs : ¬ (((b.size + b'.size : Nat) : Int) > IntKind.i64.max) := by
          have h1 : b.size = b.data.toList.length := by simp
          have h2 : b'.size = b'.data.toList.length := by simp
          have : IntKind.i64.max = 9223372036854775807 := by decide
          rw [this]; omega
        intro w
        simp only [binOp, hb, hb', Op.stringOp, hs, if_false]
        rfl
    · cases hm : strCmp op b.data.toList b'.data.toList with
      | none => simp [hm] at hK
      | some m =>
        simp only [hm] at hK
        obtain ⟨v, hv, hr⟩ := run_str (P := P) (e := e) (t := t) hm
        exact fin0 h (hrun v (by rw [hb, hb']; exact hv) (by simp [hb]) (by simp [hb])) hr trivial hK
  · have e1 := rep_raw hx
    have e2 := rep_raw hy
    obtain ⟨r', hr', hK⟩ := bd_some hK
    refine fin0 h (hrun _ ?_ (by simp [e1]) (by simp [e1])) (mk_raw (.float .f64 r') rfl) trivial hK
    intro w
    cases op <;> simp only [flOp, reduceCtorEq] at hr' <;> simp [binOp, e1, e2, Op.floatArith, hr']
  · rename_i hn1 hn2 hn3
    split at hK
    · rename_i I hI
      obtain ⟨hI1, hI2⟩ := tv_some hI
      cases hf : fitLs I.lay (slotLeaves sx) && fitLs I.lay (slotLeaves sy) && (shapeB I.st sx && shapeB I.st sy) with
      | false => simp [hf] at hK
      | true =>
        simp only [hf, cond_true] at hK
        simp only [Bool.and_eq_true] at hf
        obtain ⟨hf, hsh⟩ := hf
        split at hK
        · cases hm : eqLeaves (slotLeaves sx) (slotLeaves sy) with
          | none => simp [hm] at hK
          | some b =>
            simp only [hm] at hK
            refine fin0 h ?_ (mk_b b) trivial hK
            intro w
            obtain ⟨h1, h2⟩ := hE t I hI1 hI2 e w _ _ sx sy b hx hy hf.1 hf.2 hsh.1 hsh.2 hm hn1 hn2
            have := (h2 x y .eql).1
            simp [execOp, ho, this, (h2 x y .eql).2.1 rfl, h1]
        · cases hm : eqLeaves (slotLeaves sx) (slotLeaves sy) with
          | none => simp [hm] at hK
          | some b =>
            simp only [hm] at hK
            refine fin0 h ?_ (mk_b (!b)) trivial hK
            intro w
            obtain ⟨h1, h2⟩ := hE t I hI1 hI2 e w _ _ sx sy b hx hy hf.1 hf.2 hsh.1 hsh.2 hm hn1 hn2
            have := (h2 x y .neq).1
            simp [execOp, ho, this, (h2 x y .neq).2.2 rfl, h1]
        · simp at hK
    · simp at hK
end

end Dn
/-
  Lengths, parts, places, loads. Conditions: none.
-/
set_option linter.unusedSimpArgs false
set_option linter.unusedVariables false
namespace Dn
open Go

section
variable {P : Program} {c : Ctx} {Z : Zone} {e : Env} {st : St} {a : Act} {w : World} {R : Type} {K : St → Option R} {r : R} {Q : Exit → Act → World → Prop} {o : Oper}

theorem cell_of {blk : Nat} {arr : Array Value} {T : TypeId} {fr : Nat × Nat} (h : w.heap[blk]? = some (.cells arr T fr)) (j : Nat) : w.cell? ⟨blk, j, none⟩ = arr[j]? := by
  simp [World.cell?, h]
theorem frozen_of {blk : Nat} {arr : Array Value} {T : TypeId} (h : w.heap[blk]? = some (.cells arr T (0, 0))) (j : Nat) : w.frozen? ⟨blk, j, none⟩ = false := by
  simp [World.frozen?, h]

/-- the value of so many cells, of a type -/
theorem run_load_cells {t : TypeId} {I : TI} {blk off : Nat} {vs : List Value} (hr : RowOK c.ti P t I) (hc : I.comps = []) (hl : vs.length = I.size) (hm : w.rangeAt blk off vs) :
    ((I.st = true ∨ I.size = 32) ∧ ∀ w : World, w.rangeAt blk off vs → (Instr.loadAt t (.pointer (some ⟨blk, off, none⟩))).run P w = .ok (.agg vs.toArray) w) ∨
    (I.st = false ∧ ∃ v, vs = [v] ∧ ∀ w : World, w.rangeAt blk off vs → (Instr.loadAt t (.pointer (some ⟨blk, off, none⟩))).run P w = .ok v w) := by
  obtain ⟨i, hi, hs, _⟩ := hr.info hc
  rcases hr.agg hc with ⟨d, hu, hd, hh⟩ | ⟨d, hu, hd, h1, h2⟩
  · refine .inl ⟨hh.imp id (·.2), fun w hm => ?_⟩
    exact run_loadAt_mid w blk off t vs d hm hu hd (by simp [hi, hs, hl])
  · refine .inr ⟨h1, ?_⟩
    rw [h2] at hl
    obtain ⟨v, rfl⟩ := List.length_eq_one_iff.1 hl
    refine ⟨v, rfl, fun w hm => ?_⟩
    have hcell : w.cell? ⟨blk, off, none⟩ = some v := hm 0 v rfl
    have hag : (isAgg t).run P w = .ok false w := by
      unfold isAgg
      rw [Sem.run_bind, run_underlying hu w]
      cases d <;> simp_all
    simp [Instr.loadAt, Instr.sureAddr, loadVar, hag, hcell]

theorem LeafRep.slot {vs : List Value} {l : Leaf} {v : Value} (h : LeafRep e vs l) (hv : (vs = [v] ∧ l.w = 1) ∨ (v = .agg vs.toArray ∧ l.w = 32)) : SlotRep e v (.sc l) := by
  rcases hv with ⟨rfl, hw⟩ | ⟨rfl, hw⟩
  · cases l <;> simp [SlotRep, Leaf.w] at hw ⊢ <;> exact h
  · cases l <;> simp [Leaf.w] at hw
    simp only [SlotRep]
    have : vs = hcells _ := h
    rw [this]

/-- loading some leaves of a row of cells -/
theorem ldLeaves_run {t : TypeId} {I : TI} {cs : List Leaf} {blk base off : Nat} {vs : List Value} {s : Slot} {K' : Slot → Option R} (hr : RowOK c.ti P t I) (hc : I.comps = [])
    (hv : LeavesRep e vs cs) (hm : w.rangeAt blk base vs) (hK : ldLeaves I cs off K' = some r) :
    ∃ v s, (∀ w : World, w.rangeAt blk base vs → (Instr.loadAt t (.pointer (some ⟨blk, base + off, none⟩))).run P w = .ok v w) ∧ SlotRep e v s ∧ rootOK st.fr s ∧ K' s = some r := by
  unfold ldLeaves at hK
  cases hst : I.st with
  | true =>
    simp only [hst, cond_true] at hK
    cases hp : Dn.part cs off I.size with
    | none => simp [hp] at hK
    | some ds =>
      simp only [hp] at hK
      obtain ⟨v1, v2, v3, rfl, h1, h2, h3⟩ := part_spec hp hv
      have hm2 : ∀ w : World, w.rangeAt blk base (v1 ++ v2 ++ v3) → w.rangeAt blk (base + off) v2 := by
        intro w hm j v hj
        have hj2 : j < v2.length := (List.getElem?_eq_some_iff.1 hj).1
        have := hm (off + j) v (by rw [List.append_assoc, List.getElem?_append_right (by omega), List.getElem?_append_left (by omega)]; rw [show off + j - v1.length = j by omega]; exact hj)
        rwa [← Nat.add_assoc] at this
      rcases run_load_cells hr hc h2 (hm2 w hm) with ⟨_, hrun⟩ | ⟨hf, _⟩
      · refine ⟨_, .ag ds, fun w hm => hrun w (hm2 w hm), ?_, trivial, hK⟩
        simp only [SlotRep]
        exact ⟨_, rfl, by simpa using h3⟩
      · rw [hst] at hf; cases hf
  | false =>
    simp only [hst, cond_false] at hK
    cases hp : cut cs off with
    | none => simp [hp] at hK
    | some ds =>
      cases ds with
      | nil => simp [hp] at hK
      | cons l ls =>
        simp only [hp] at hK
        cases hb : Nat.beq l.w I.size with
        | false => simp [hb] at hK
        | true =>
          simp only [hb, cond_true] at hK
          have hw := Nat.eq_of_beq_eq_true hb
          obtain ⟨v1, v2, rfl, h1, h2⟩ := cut_spec hp hv
          obtain ⟨u, u2, rfl, h3, h4⟩ := h2
          have hm2 : ∀ w : World, w.rangeAt blk base (v1 ++ (u ++ u2)) → w.rangeAt blk (base + off) u := by
            intro w hm j v hj
            have hj2 : j < u.length := (List.getElem?_eq_some_iff.1 hj).1
            have := hm (off + j) v (by rw [List.getElem?_append_right (by omega), List.getElem?_append_left (by omega)]; rw [show off + j - v1.length = j by omega]; exact hj)
            rwa [← Nat.add_assoc] at this
          rcases run_load_cells hr hc (by rw [h3.width, hw]) (hm2 w hm) with ⟨hh, hrun⟩ | ⟨_, v, hv1, hrun⟩
          · refine ⟨_, .sc l, fun w hm => hrun w (hm2 w hm), h3.slot (.inr ⟨rfl, ?_⟩), trivial, hK⟩
            rcases hh with hh | hh
            · rw [hst] at hh; cases hh
            · rw [hw, hh]
          · refine ⟨_, .sc l, fun w hm => hrun w (hm2 w hm), h3.slot (.inl ⟨hv1, ?_⟩), trivial, hK⟩
            rw [← h3.width, hv1]; rfl

theorem ElemsRep.at {key : Nat → Nat} {φ : Ph} {size : Nat} {xs : List MV} : ∀ {cs : List Value} {i : Nat} {x : MV}, ElemsRep key φ size cs xs → xs[i]? = some x →
    ∃ a v b, cs = a ++ v ++ b ∧ a.length = i * size ∧ v.length = size ∧ Rep key φ v x := by
  induction xs with
  | nil => intro cs i x _ hx; simp at hx
  | cons y ys ih =>
    intro cs i x h hx
    obtain ⟨v, q, rfl, hl, hr, he⟩ := h
    cases i with
    | zero => simp at hx; subst hx; exact ⟨[], v, q, by simp, by simp, hl, hr⟩
    | succ i =>
      obtain ⟨a, u, b, rfl, h1, h2, h3⟩ := ih he (by simpa using hx)
      exact ⟨v ++ a, u, b, by simp, by simp [hl, h1, Nat.succ_mul, Nat.add_comm], h2, h3⟩
theorem RepL.leaves {ms : List MV} : ∀ {vs : List Value} {cs : List Leaf}, RepL e.key e.φ vs ms → leavesMV cs = some ms → (∀ m, Leaf.p m ∈ cs → m.one = true) → LeavesRep e vs cs := by
  induction ms with
  | nil =>
    intro vs cs h hc _
    cases h
    cases cs with
    | nil => rfl
    | cons l r =>
      cases hr : leavesMV r <;> cases l <;> simp [leavesMV, hr] at hc
  | cons m ms ih =>
    intro vs cs h hc ho
    cases cs with
    | nil => simp [leavesMV] at hc
    | cons l r =>
      generalize hvs : vs = vs' at h
      cases h with
      | cons v _ vs _ h1 h2 =>
      subst hvs
      cases hr : leavesMV r with
      | none => cases l <;> simp [leavesMV, hr] at hc
      | some q =>
        have ho2 : ∀ m, Leaf.p m ∈ r → m.one = true := fun m hm => ho m (by simp [hm])
        cases l <;> simp [leavesMV, hr] at hc
        · obtain ⟨rfl, rfl⟩ := hc
          exact ⟨v, vs, rfl, ⟨ho _ (by simp), h1⟩, ih h2 hr ho2⟩
        · obtain ⟨rfl, rfl⟩ := hc
          refine ⟨v, vs, rfl, ?_, ih h2 hr ho2⟩
          generalize hv : v = v' at h1
          cases h1
          exact rfl
theorem Rep.elLeaves {vs : List Value} {x : MV} {b : Bool} {cs : List Leaf} (h : Rep e.key e.φ vs x) (hc : ElLeaves b x cs) : LeavesRep e vs cs := by
  obtain ⟨⟨ms, h1, h2⟩, h3⟩ := hc
  cases b with
  | true =>
    cases ms <;> simp [reEl] at h2 <;> subst h2 <;> (generalize hv : vs = v' at h; cases h; subst hv; rename_i hh; exact hh.leaves h1 h3)
  | false =>
    cases ms with
    | nil => simp [reEl] at h2
    | cons m ms =>
      cases ms with
      | cons y ys => simp [reEl] at h2
      | nil =>
        simp [reEl] at h2
        subst h2
        have : RepL e.key e.φ (vs ++ []) [m] := .cons vs m [] [] h .nil
        rw [List.append_nil] at this
        exact this.leaves h1 h3

theorem op_still {t : TypeId} {x : Operand} {I : TI} {cs : List Leaf} {off : Nat} (ho : o.op = .load t x) (hI : c.tv t = some I) (hT : TIok P c.ti) (h : Sim c Z e st a w) (hev : evalO c st x = .rp cs off)
    (hK : ldLeaves I cs off (fun s => setDst c st o.dst s K) = some r) : Rd P c Z K r e a w o (fun w' => ∀ b q v, e.φ b q = some v → w'.cell? ⟨b, q, none⟩ = some v) := by
  obtain ⟨hx, hrt⟩ := h.eval x
  obtain ⟨hti, hc⟩ := tv_some hI
  have hr := hT t I hti
  rw [hev] at hx
  simp only [SlotRep] at hx
  obtain ⟨blk, q, vs, hx, hlv, _, hphi⟩ := hx
  have hm : ∀ w' : World, (∀ b q v, e.φ b q = some v → w'.cell? ⟨b, q, none⟩ = some v) → w'.rangeAt blk q vs := by
    intro w' hi j v hj
    have hj2 : j < vs.length := (List.getElem?_eq_some_iff.1 hj).1
    exact hi _ _ _ (by rw [hphi j hj2]; exact hj)
  obtain ⟨v, s, h1, h2, h3, h4⟩ := ldLeaves_run (st := st) (s := .skip) hr hc hlv (hm w h.imm) hK
  refine finR (fun w' hi => ?_) h (.refl _ _ _) (.of h2 h3) h4
  simp [execOp, ho, hx, h1 w' (hm w' hi)]
theorem op_load {t : TypeId} {x : Operand} {I : TI} (ho : o.op = .load t x) (hI : c.tv t = some I) (hT : TIok P c.ti) (h : Sim c Z e st a w)
    (hK : ldK st I (evalO c st x) (fun s => setDst c st o.dst s K) = some r) : Rd P c Z K r e a w o (Grow w) := by
  obtain ⟨hx, hrt⟩ := h.eval x
  obtain ⟨hti, hc⟩ := tv_some hI
  have hr := hT t I hti
  have fin1 : ∀ v s, (∀ w' : World, Grow w w' → (Instr.loadAt t (a.eval x)).run P w' = .ok v w') → SlotRep e v s → rootOK st.fr s → setDst c st o.dst s K = some r → Rd P c Z K r e a w o (Grow w) := by
    intro v s h1 h2 h3 h4
    refine finR (fun w' hg => ?_) h (.refl _ _ _) (.of h2 h3) h4
    simp [execOp, ho, h1 w' hg]
  have keep : ∀ {w' : World} {blk off : Nat} {vs : List Value}, Grow w w' → w.rangeAt blk off vs → w'.rangeAt blk off vs := by
    intro w' blk off vs hg hm j v hj
    exact hg.cell (hm j v hj)
  generalize evalO c st x = s at hx hK hrt
  unfold ldK at hK
  split at hK
  · rename_i root off
    simp only [SlotRep] at hx
    have hsl := h.slot root
    split at hK
    · rename_i cs hcs
      rw [hcs] at hsl
      have hm0 : isMp cs = false := by cases hq : isMp cs <;> simp_all
      simp only [hm0, cond_false] at hK
      obtain ⟨_, hbox⟩ := hsl
      obtain ⟨arr, T, hheap, hlv⟩ := hbox.cells hm0
      have hm : w.rangeAt (e.B root) 0 arr.toList := by
        intro j v hj
        rw [Nat.zero_add, cell_of hheap]; simpa using hj
      obtain ⟨v, s, h1, h2, h3, h4⟩ := ldLeaves_run (st := st) (s := .skip) hr hc hlv hm hK
      rw [Nat.zero_add] at h1
      exact fin1 v s (fun w' hg => by rw [hx]; exact h1 w' (keep hg hm)) h2 h3 h4
    · simp at hK
  · rename_i cs off
    simp only [SlotRep] at hx
    obtain ⟨blk, q, vs, hx, hlv, _, hphi⟩ := hx
    have hm : w.rangeAt blk q vs := by
      intro j v hj
      have hj2 : j < vs.length := (List.getElem?_eq_some_iff.1 hj).1
      exact h.imm _ _ _ (by rw [hphi j hj2]; exact hj)
    obtain ⟨v, s, h1, h2, h3, h4⟩ := ldLeaves_run (st := st) (s := .skip) hr hc hlv hm hK
    exact fin1 v s (fun w' hg => by rw [hx]; exact h1 w' (keep hg hm)) h2 h3 h4
  · rename_i f i off b cs
    cases hf : oget st.fams f with
    | none => simp [hf] at hK
    | some o' =>
      simp only [hf] at hK
      simp only [SlotRep] at hx
      obtain ⟨blk, cap, hE, ⟨x, hxi, hel⟩, hx⟩ := hx o' (by rw [h.m]; exact hf)
      obtain ⟨J, cells, hJ, hJc, hown, hels, _⟩ := (h.fam f o' hf).row
      obtain ⟨p1, v1, p2, rfl, hl1, hl2, hrep⟩ := hels.at hxi
      have hlv := hrep.elLeaves hel
      rw [hE] at hown
      have hcell := hown.cells (g := blk) rfl
      have hm : w.rangeAt blk (i * sumW cs) v1 := by
        intro j v hj
        have hj2 : j < v1.length := (List.getElem?_eq_some_iff.1 hj).1
        have := hcell (i * J.size + j) v (by rw [List.append_assoc, List.getElem?_append_right (by omega), List.getElem?_append_left (by omega)]; rw [show i * J.size + j - p1.length = j by omega]; exact hj)
        rw [Addr.add_mid, Nat.zero_add] at this
        rw [← hlv.width, hl2]; exact this
      obtain ⟨v, s, h1, h2, h3, h4⟩ := ldLeaves_run (st := st) (s := .skip) hr hc hlv hm hK
      exact fin1 v s (fun w' hg => by rw [hx]; exact h1 w' (keep hg hm)) h2 h3 h4
  · rename_i root off i
    simp only [SlotRep] at hx
    obtain ⟨hx, hi32⟩ := hx
    have hsl := h.slot root
    cases hb : I.st || !Nat.beq I.size 1 with
    | true => simp [hb] at hK
    | false =>
      simp only [hb, cond_false] at hK
      simp only [Bool.or_eq_false_iff, Bool.not_eq_false'] at hb
      have hsz := Nat.eq_of_beq_eq_true hb.2
      split at hK
      · rename_i cs hcs
        rw [hcs] at hsl
        have hm0 : isMp cs = false := by cases hq : isMp cs <;> simp_all
        simp only [hm0, cond_false] at hK
        obtain ⟨_, hbox⟩ := hsl
        obtain ⟨arr, T, hheap, hlv⟩ := hbox.cells hm0
        split at hK
        · rename_i b ls hcut
          obtain ⟨v1, v2, hv12, h1, h2⟩ := cut_spec hcut hlv
          obtain ⟨u, u2, rfl, h3, h4⟩ := h2
          have h3 : u = hcells b := h3
          subst h3
          have hg := hcells_get b i hi32
          have hlen := hcells_length b
          have hm : w.rangeAt (e.B root) (off + i) [.int .u8 ((b.l.getD i 0).toNat : Int)] := by
            intro j v hj
            cases j with
            | succ j => simp at hj
            | zero =>
              simp at hj
              rw [Nat.add_zero, cell_of hheap]
              have : arr[off + i]? = arr.toList[off + i]? := by simp
              rw [this, hv12, List.getElem?_append_right (by omega), List.getElem?_append_left (by omega), show off + i - v1.length = i by omega, hg, ← hj]
              simp [List.getD]
          rcases run_load_cells hr hc (by simp [hsz]) hm with ⟨hh, _⟩ | ⟨_, v, hv1, hrun⟩
          · rcases hh with hh | hh
            · rw [hb.1] at hh; cases hh
            · omega
          · simp at hv1
            subst hv1
            exact fin1 _ _ (fun w' hg => by rw [hx]; exact hrun w' (keep hg hm)) (mk_i _ _) trivial hK
        · simp at hK
      · simp at hK
  · simp at hK
theorem op_field1 {t : TypeId} {x : Operand} {f : Nat} {I : TI} (ho : o.op = .fieldAddr t x f) (hI : c.tv t = some I) (hT : TIok P c.ti) (h : Sim c Z e st a w)
    (hK : fldAK st I f (evalO c st x) (fun s => setDst c st o.dst s K) = some r) : Rd P c Z K r e a w o (fun _ => True) := by
  obtain ⟨hx, hrt⟩ := h.eval x
  obtain ⟨hti, hc⟩ := tv_some hI
  obtain ⟨d, i, h1, h2, h3, h4⟩ := hT t I hti
  have key : ∀ q blk off, I.st = true → I.flds[f]? = some q → a.eval x = .pointer (some ⟨blk, off, none⟩) →
      ∀ w : World, (execOp a.eval o).run P w = .ok (.value (.pointer (some ⟨blk, off + q, none⟩))) w := by
    intro q blk off hst hq hv w
    cases d <;> simp only [RowD] at h4
    case struct fs =>
      obtain ⟨_, _, _, ho1, ho2, ho3, _⟩ := h4
      rw [← ho1, List.getElem?_map] at hq
      cases hf : fs.toList[f]? with
      | none => simp [hf] at hq
      | some fl =>
        simp [hf] at hq
        subst hq
        have hf' : fs[f]? = some fl := by simpa using hf
        obtain ⟨J, hJ, hJc, hJs⟩ := ho3 f fl hf'
        obtain ⟨ij, hij, hs, _⟩ := (hT _ _ hJ).info hJc
        have hz : ij.size ≠ 0 := by omega
        simp [execOp, ho, hv, Instr.fieldAt, run_underlying h1, hf', Instr.sureAddr, fieldPlace, Go.sizeOf, typeInfo, hij, hz, Addr.add_mid]
    all_goals (exfalso; simp_all)
  generalize evalO c st x = s at hx hK hrt
  unfold fldAK at hK
  split at hK
  · rename_i q r' o' hst hq
    simp only [SlotRep] at hx
    refine fin0 (s := .ptr r' (o' + q)) h (key q _ _ hst hq hx) ?_ hrt hK
    simp only [SlotRep]
  · rename_i q cs o' hst hq
    simp only [SlotRep] at hx
    obtain ⟨blk, b, vs, hx, hh⟩ := hx
    refine fin0 (s := .rp cs (o' + q)) h (key q _ _ hst hq hx) ?_ trivial hK
    simp only [SlotRep]
    exact ⟨blk, b, vs, by rw [Nat.add_assoc], hh⟩
  · rename_i q g i' o' b cs hst hq
    cases hf : oget st.fams g with
    | none => simp [hf] at hK
    | some w' =>
      simp only [hf] at hK
      simp only [SlotRep] at hx
      obtain ⟨blk, cap, h5, h6, h7⟩ := hx w' (by rw [h.m]; exact hf)
      refine fin0 (s := .ep g i' (o' + q) b cs) h (key q _ _ hst hq h7) ?_ trivial hK
      simp only [SlotRep]
      intro o2 ho2
      rw [h.m, hf] at ho2
      cases ho2
      exact ⟨blk, cap, h5, h6, by rw [Nat.add_assoc]⟩
  · simp at hK

theorem op_ext {x : Operand} {k : Nat} (ho : o.op = .extract x k) (h : Sim c Z e st a w)
    (hK : extK (evalO c st x) k (fun s => setDst c st o.dst s K) = some r) : Rd P c Z K r e a w o (fun _ => True) := by
  obtain ⟨hx, hrt⟩ := h.eval x
  generalize evalO c st x = s at hx hK
  unfold extK at hK
  split at hK
  · rename_i vs
    simp only [SlotRep] at hx
    obtain ⟨arr, hv, hs⟩ := hx
    cases hk : vs[k]? with
    | none => simp [hk] at hK
    | some s =>
      simp only [hk] at hK
      have : ∀ (k : Nat) (vs : List Slot) (l : List Value), SlotsRep e l vs → vs[k]? = some s → ∃ v, l[k]? = some v ∧ SlotRep e v s ∧ pureS s = true := by
        intro k
        induction k with
        | zero =>
          intro vs l hl hk
          cases vs with
          | nil => simp at hk
          | cons y ys =>
            simp at hk
            subst hk
            simp only [SlotsRep] at hl
            obtain ⟨v, q, rfl, h1, h2, _⟩ := hl
            exact ⟨v, rfl, h1, h2⟩
        | succ k ih =>
          intro vs l hl hk
          cases vs with
          | nil => simp at hk
          | cons y ys =>
            simp only [SlotsRep] at hl
            obtain ⟨v, q, rfl, _, _, h3⟩ := hl
            obtain ⟨u, h4, h5⟩ := ih ys q h3 (by simpa using hk)
            exact ⟨u, by simpa using h4, h5⟩
      obtain ⟨v, hv2, h1, h2⟩ := this k vs arr.toList hs hk
      have hv3 : arr[k]? = some v := by simpa using hv2
      refine fin0 h ?_ h1 ?_ hK
      · simp [execOp, ho, hv, Instr.extract, hv3]
      · cases s <;> simp [pureS] at h2 <;> trivial
  · simp at hK

end

end Dn
/-
  Operations that make memory: variables. Conditions: none.
-/
set_option linter.unusedSimpArgs false
set_option linter.unusedVariables false
namespace Dn
open Go

section
variable {P : Program} {c : Ctx} {Z : Zone} {e : Env} {st : St} {a : Act} {w w' : World} {R : Type} {K : St → Option R} {r : R} {Q : Exit → Act → World → Prop} {o : Oper}

theorem Grow.refl (w : World) : Grow w w := ⟨Nat.le_refl _, fun _ _ => rfl, .refl _⟩
theorem Grow.alloc (w : World) (cs : Array Value) (t : TypeId) : Grow w (w.alloc (.cells cs t)) := ⟨by simp, fun b hb => heapOld w _ b hb, .alloc w cs t⟩
theorem Grow.owns (g : Grow w w') {base : Nat} {t : TypeId} {size : Nat} {v : Value} {n : Nat} {xs : List Value} (h : w.ownsRow base t size v n xs) : w'.ownsRow base t size v n xs := by
  refine ⟨h.1, ?_⟩
  rcases h.2 with h | ⟨b, cap, cur, h1, h2, h3, h4⟩
  · exact .inl h
  · exact .inr ⟨b, cap, cur, h1, h2, by rw [g.old b (lt_of_heap h3)]; exact h3, h4⟩
theorem BoxOK.grow (g : Grow w w') {blk : Nat} {cs : List Leaf} (h : BoxOK Z e w blk cs) : BoxOK Z e w' blk cs := by
  obtain ⟨o, h1, h2⟩ := h.obj
  exact ⟨h.zone, ⟨o, by rw [g.old _ (lt_of_heap h1)]; exact h1, h2⟩, h.free⟩
theorem FamOK.grow (g : Grow w w') {v : Value} {f : Own} (h : FamOK c Z e w v f) : FamOK c Z e w' v f := by
  obtain ⟨I, cells, h1, h2, h3, h4, h5⟩ := h.row
  exact ⟨I, cells, h1, h2, g.owns h3, h4, h5⟩
theorem Sim.grow (g : Grow w w') (h : Sim c Z e st a w) : Sim c Z e st a w' := by
  refine ⟨h.defers, h.size, h.m, h.key, h.nodup, ?_, h.root, fun f o ho => (h.fam f o ho).grow g, h.bb, h.bf, h.ff, fun b o v hv => g.cell (h.imm b o v hv), fun b hb => h.zone b (Nat.le_trans g.size hb)⟩
  intro t
  have hs := h.slot t
  generalize fget st.fr t = s at hs
  cases s <;> simp only [SlotAt] at hs ⊢ <;> first | exact hs | exact ⟨hs.1, hs.2.grow g⟩
theorem Grow.trans (g : Grow w w') (hz : ∀ b, w.heap.size ≤ b → Z b) (φ : Ph) : Trans Z φ w φ w' :=
  ⟨.refl φ, fun b _ hl => g.old b hl, fun _ _ _ => rfl, g.size, g.rest⟩

theorem leafZ_rep {l : Leaf} {vs : List Value} (h : leafZ l vs = true) : LeafRep e vs l := by
  unfold leafZ at h
  split at h
  · simp at h; subst h; exact ⟨rfl, .b _⟩
  · simp at h; obtain ⟨rfl, rfl⟩ := h; exact ⟨rfl, .i _ _⟩
  · simp at h; subst h; exact ⟨rfl, .s _⟩
  · split at h
    · exact ⟨rfl, .raw _ rfl⟩
    · exact ⟨rfl, .raw _ rfl⟩
    · exact ⟨rfl, .raw _ rfl⟩
    · simp at h
  · rfl
  · exact ⟨_, rfl, h⟩
  · rename_i x
    simp only [Bool.and_eq_true, beq_iff_eq] at h
    obtain ⟨h1, h2⟩ := h
    show vs = hcells x
    apply List.ext_getElem?
    intro j
    by_cases hj : j < 32
    · rw [hcells_get x j hj]
      have hjv : j < vs.length := by omega
      have hjl : j < x.l.length := by rw [x.h]; exact hj
      rw [List.all_eq_true] at h2
      have hm : (vs[j], x.l[j]) ∈ vs.zip x.l := List.mem_iff_getElem.2 ⟨j, by simp; omega, by simp⟩
      have := h2 _ hm
      rw [List.getElem?_eq_getElem hjv]
      dsimp only at this
      split at this
      · rename_i n hn
        rw [hn, of_decide_eq_true this]
        simp [List.getD, List.getElem?_eq_getElem hjl]
      · simp at this
    · rw [List.getElem?_eq_none (by omega), List.getElem?_eq_none (by rw [hcells_length]; omega)]
  · simp at h
theorem leavesZ_rep {ls : List Leaf} : ∀ {vs : List Value}, leavesZ ls vs = true → LeavesRep e vs ls := by
  induction ls with
  | nil => intro vs h; simpa [leavesZ, LeavesRep] using h
  | cons l r ih =>
    intro vs h
    simp only [leavesZ, Bool.and_eq_true] at h
    exact ⟨vs.take l.w, vs.drop l.w, by simp, leafZ_rep h.1.1, ih h.1.2⟩

theorem LeavesRep.notMp {cs : List Leaf} {vs : List Value} (h : LeavesRep e vs cs) : isMp cs = false := by
  cases hm : isMp cs with
  | false => rfl
  | true => obtain ⟨s, ms, rfl⟩ := isMp_mp hm; obtain ⟨_, _, _, h1, _⟩ := h; exact h1.elim
theorem new_free (h : Sim c Z e st a w) (off : Nat) : e.φ w.heap.size off = none := by
  cases hp : e.φ w.heap.size off with
  | none => rfl
  | some v =>
    have := World.block_lt_of_cell? w _ (h.imm _ _ _ hp)
    simp at this
/-- a new block is no one's -/
theorem new_blk (h : Sim c Z e st a w) : (∀ t cs', fget st.fr t = .box cs' → e.B t ≠ w.heap.size) ∧ (∀ f o, oget st.fams f = some o → (e.E f).ownBlock ≠ some w.heap.size) := by
  refine ⟨?_, ?_⟩
  · intro t cs' ht
    have hs := h.slot t
    rw [ht] at hs
    obtain ⟨o, h1, _⟩ := hs.2.obj
    have := lt_of_heap h1
    omega
  · intro f o ho hk
    obtain ⟨I, cells, h1, h2, h3, h4, h5⟩ := (h.fam f o ho).row
    rcases h3.2 with ⟨hv, _⟩ | ⟨g, cap, cur, hv, _, hg, _⟩
    · rw [hv] at hk; simp [Value.ownBlock] at hk
    · rw [hv] at hk
      simp only [Value.ownBlock, Option.some.injEq] at hk
      have := lt_of_heap hg
      omega
/-- a new variable -/
theorem new_var {cells : Array Value} {T : TypeId} {cs : List Leaf} (h : Sim c Z e st a w) (hl : LeavesRep e cells.toList cs) :
    NewRep Z e (w.alloc (.cells cells T)) st (.pointer (some ⟨w.heap.size, 0, none⟩)) (.box cs) := by
  exact ⟨w.heap.size, by rw [bptr_p hl.notMp], ⟨h.zone _ (Nat.le_refl _), ⟨_, heapNew w _, rfl, hl⟩, new_free h⟩, (new_blk h).1, (new_blk h).2⟩
theorem op_alloc {t : TypeId} {I : TI} (ho : o.op = .alloc t) (hI : c.tv t = some I) (hT : TIok P c.ti) (h : Sim c Z e st a w)
    (hK : setDst c st o.dst (.box I.zero) K = some r) : o.wp P a w (fun a' w' => Grow w w' ∧ Out c Z K r e.φ w a' w') Q := by
  obtain ⟨hti, hc⟩ := tv_some hI
  obtain ⟨d, i, h1, h2, h3, h4⟩ := hT t I hti
  have hz : ∃ z, i.zero = some z ∧ LeavesRep e z.cells.toList I.zero := by
    cases d <;> simp only [RowD] at h4
    case struct fs => obtain ⟨_, _, _, _, _, _, cs, hz, hl, _⟩ := h4; exact ⟨_, hz, by simpa [Value.cells] using leavesZ_rep hl⟩
    case tuple ts => exact absurd hc h4.2.1
    case slice el => obtain ⟨_, _, _, _, _, hz, hl, _⟩ := h4; exact ⟨_, hz, by rw [hl]; exact ⟨[.slice none 0 0], [], rfl, rfl, rfl⟩⟩
    case array n el => obtain ⟨_, _, _, _, _, _, _, hl, hz⟩ := h4; exact ⟨_, hz, by rw [hl]; exact ⟨hcells Hash.zero, [], by simp [Value.cells], rfl, rfl⟩⟩
    case bool => obtain ⟨_, _, _, _, hl, hz⟩ := h4; exact ⟨_, hz, by rw [hl]; exact ⟨[.bool false], [], rfl, ⟨rfl, .b _⟩, rfl⟩⟩
    case int k => obtain ⟨_, _, _, _, hl, hz⟩ := h4; exact ⟨_, hz, by rw [hl]; exact ⟨[.int k 0], [], rfl, ⟨rfl, .i _ _⟩, rfl⟩⟩
    case string =>
      obtain ⟨_, _, _, _, hl, b, hz, hb⟩ := h4
      refine ⟨_, hz, by rw [hl]; refine ⟨[.string b], [], rfl, ⟨rfl, ?_⟩, rfl⟩; rw [← hb]; exact .s b⟩
    all_goals
      obtain ⟨_, _, _, _, v, hz, hv, hl⟩ := h4
      refine ⟨v, hz, ?_⟩
      have : v.cells.toList = [v] := by cases v <;> simp_all [Value.cells, Value.oneCell']
      rw [this]; exact leavesZ_rep hl
  obtain ⟨z, hz, hl⟩ := hz
  have hrun : (execOp a.eval o).run P w = .ok (.value (.pointer (some ⟨w.heap.size, 0, none⟩))) (w.alloc (.cells z.cells t)) := by
    simp [execOp, ho, Instr.alloc, zeroValue, typeInfo, h2, hz, newVar, newRow, newObj, Sem.run]
  exact finG (.alloc w _ _) hrun (h.grow (.alloc w _ _)) ((Grow.alloc w _ _).trans h.zone _) (new_var h hl) hK
theorem op_box {t : TypeId} {x : Operand} {I : TI} (ho : o.op = .box t x) (h : Sim c Z e st a w)
    (hK : boxK I (evalO c st x) (fun s => setDst c st o.dst s K) = some r) : o.wp P a w (fun a' w' => Grow w w' ∧ Out c Z K r e.φ w a' w') Q := by
  obtain ⟨hx, hrt⟩ := h.eval x
  have hrun : (execOp a.eval o).run P w = .ok (.value (.pointer (some ⟨w.heap.size, 0, none⟩))) (w.alloc (.cells (a.eval x).cells t)) := by
    simp [execOp, ho, Instr.box, newVar, newRow, newObj, Sem.run]
  have go : ∀ cs, LeavesRep e (a.eval x).cells.toList cs → setDst c st o.dst (.box cs) K = some r → o.wp P a w (fun a' w' => Grow w w' ∧ Out c Z K r e.φ w a' w') Q :=
    fun cs h1 h2 => finG (.alloc w _ _) hrun (h.grow (.alloc w _ _)) ((Grow.alloc w _ _).trans h.zone _) (new_var h h1) h2
  generalize evalO c st x = s at hx hK hrt
  unfold boxK at hK
  split at hK
  · rename_i l
    cases hb : I.st || isUn l || !Nat.beq l.w I.size with
    | true => simp [hb] at hK
    | false =>
      simp only [hb, cond_false] at hK
      refine go [l] ?_ hK
      cases l with
      | un => simp [isUn] at hb
      | hs y =>
        simp only [SlotRep] at hx
        rw [hx]
        exact ⟨hcells y, [], by simp [Value.cells], rfl, rfl⟩
      | p m =>
        simp only [SlotRep] at hx
        have : (a.eval x).cells.toList = [a.eval x] := by
          have := hx.cells (a.eval x) (by simp)
          generalize a.eval x = v at this
          cases v <;> simp_all [Value.cells, Value.oneCell']
        rw [this]; exact ⟨_, [], rfl, hx, rfl⟩
      | nil =>
        simp only [SlotRep] at hx
        have hx' : [a.eval x] = [Value.slice none 0 0] := hx
        simp at hx'
        rw [hx']; exact ⟨[.slice none 0 0], [], rfl, rfl, rfl⟩
      | mp s es => simp [isUn] at hb
      | own f =>
        simp only [SlotRep] at hx
        have : (a.eval x).cells.toList = [a.eval x] := by
          have := hx.cells (a.eval x) (by simp)
          generalize a.eval x = v at this
          cases v <;> simp_all [Value.cells, Value.oneCell']
        rw [this]; exact ⟨_, [], rfl, hx, rfl⟩
  · rename_i cs
    cases hb : I.st && !anyUn cs && Nat.beq (sumW cs) I.size with
    | false => simp [hb] at hK
    | true =>
      simp only [hb, cond_true] at hK
      simp only [SlotRep] at hx
      obtain ⟨arr, hx, hl⟩ := hx
      exact go cs (by rw [hx]; exact hl) hK
  · simp at hK
end

end Dn
/-
  Stores into variables. Conditions: none.
-/
set_option linter.unusedSimpArgs false
set_option linter.unusedVariables false
namespace Dn
open Go

section
variable {P : Program} {c : Ctx} {Z : Zone} {e : Env} {st : St} {a : Act} {w w' : World} {R : Type} {K : St → Option R} {r : R} {Q : Exit → Act → World → Prop} {o : Oper}

theorem setRow_size (w : World) (g : Nat) (cs : Array Value) : (w.setRow g cs).heap.size = w.heap.size := by simp [World.setRow]
/-- one block has other content -/
structure Chg (g : Nat) (w w' : World) : Prop where
  size : w'.heap.size = w.heap.size
  other : ∀ b, b ≠ g → w'.heap[b]? = w.heap[b]?
  rest : Rest w w'
theorem Chg.setRow (w : World) (g : Nat) (cs : Array Value) : Chg g w (w.setRow g cs) := ⟨setRow_size _ _ _, fun b hb => setRow_other _ _ _ _ hb, .setRow _ _ _⟩
theorem owns_chg {g : Nat} (hc : Chg g w w') {base : Nat} {t : TypeId} {size : Nat} {v : Value} {n : Nat} {xs : List Value} (hne : v.ownBlock ≠ some g)
    (h : w.ownsRow base t size v n xs) : w'.ownsRow base t size v n xs := by
  refine ⟨h.1, ?_⟩
  rcases h.2 with h | ⟨b, cap, cur, h1, h2, h3, h4⟩
  · exact .inl h
  · refine .inr ⟨b, cap, cur, h1, h2, ?_, h4⟩
    rw [hc.other _ (by intro e; subst e; subst h1; exact hne rfl)]; exact h3
theorem owns_other {g : Nat} {cs : Array Value} {base : Nat} {t : TypeId} {size : Nat} {v : Value} {n : Nat} {xs : List Value} (hne : v.ownBlock ≠ some g)
    (h : w.ownsRow base t size v n xs) : (w.setRow g cs).ownsRow base t size v n xs := owns_chg (.setRow w g cs) hne h
/-- one variable has other content -/
theorem Sim.setObj {root : Nat} {cs cs' : List Leaf} {o' : Obj} {fr' : Fr} (h : Sim c Z e st a w) (hf : fget st.fr root = .box cs)
    (hch : Chg (e.B root) w w') (hnew : w'.heap[e.B root]? = some o') (hl : ObjRep e o' cs') (hmm : isMa cs' = isMa cs) (hfr : ∀ t, fget fr' t = if t = root then .box cs' else fget st.fr t)
    (hnd : (keysOf fr').Nodup) : Sim c Z e { st with fr := fr' } a w' := by
  have hsz := hch.size
  have hroot := h.slot root
  rw [hf] at hroot
  refine ⟨h.defers, h.size, h.m, h.key, hnd, ?_, ?_, ?_, ?_, ?_, h.ff, ?_, fun b hb => h.zone b (by omega)⟩
  · intro t
    show SlotAt Z e _ t _ (fget fr' t)
    rw [hfr]
    by_cases ht : t = root
    · subst ht
      simp only [if_true, SlotAt]
      exact ⟨hroot.1.isMa hmm, ⟨hroot.2.zone, ⟨o', hnew, hl⟩, hroot.2.free⟩⟩
    · simp only [ht, if_false]
      have hs := h.slot t
      have hbb := h.bb t root
      generalize hg : fget st.fr t = s at hs hbb
      cases s <;> simp only [SlotAt] at hs ⊢ <;> try exact hs
      rename_i cs2
      refine ⟨hs.1, hs.2.zone, ?_, hs.2.free⟩
      obtain ⟨o2, h1, h2⟩ := hs.2.obj
      exact ⟨o2, by rw [hch.other _ (hbb cs2 cs rfl hf ht)]; exact h1, h2⟩
  · intro t
    show rootOK fr' (fget fr' t)
    rw [hfr]
    by_cases ht : t = root
    · simp [ht, rootOK]
    · simp only [ht, if_false]
      have hr := h.root t
      generalize fget st.fr t = s at hr
      cases s <;> simp only [rootOK] at hr ⊢ <;> (rw [hfr]; split <;> simp_all [isBox])
  · intro f o ho
    obtain ⟨I, cells, h1, h2, h3, h4, h5⟩ := (h.fam f o ho).row
    exact ⟨I, cells, h1, h2, owns_chg hch (h.bf root cs f o hf ho) h3, h4, h5⟩
  · intro t t' c1 c2 h1 h2 hne
    have h1 : fget fr' t = .box c1 := h1
    have h2 : fget fr' t' = .box c2 := h2
    rw [hfr] at h1 h2
    by_cases ht : t = root
    · by_cases ht' : t' = root
      · exact absurd (ht.trans ht'.symm) hne
      · simp only [ht', if_false] at h2; rw [ht]; exact h.bb root t' cs c2 hf h2 (by rw [← ht]; exact hne)
    · simp only [ht, if_false] at h1
      by_cases ht' : t' = root
      · rw [ht']; exact h.bb t root c1 cs h1 hf ht
      · simp only [ht', if_false] at h2; exact h.bb t t' c1 c2 h1 h2 hne
  · intro t c1 f o h1 h2
    have h1 : fget fr' t = .box c1 := h1
    rw [hfr] at h1
    by_cases ht : t = root
    · rw [ht]; exact h.bf root cs f o hf h2
    · simp only [ht, if_false] at h1; exact h.bf t c1 f o h1 h2
  · intro b o v hv
    have hne : b ≠ e.B root := by intro eb; subst eb; rw [hroot.2.free] at hv; cases hv
    have := h.imm b o v hv
    rw [World.cell?_of_block (hch.other _ hne)]; exact this
theorem Sim.setBox {root : Nat} {cs cs' : List Leaf} {arr arr' : Array Value} {T : TypeId} {fr' : Fr} (h : Sim c Z e st a w) (hf : fget st.fr root = .box cs)
    (hheap : w.heap[e.B root]? = some (.cells arr T (0, 0))) (hl : LeavesRep e arr'.toList cs') (hfr : ∀ t, fget fr' t = if t = root then .box cs' else fget st.fr t)
    (hnd : (keysOf fr').Nodup) : Sim c Z e { st with fr := fr' } a (w.setRow (e.B root) arr') := by
  have hroot := h.slot root
  rw [hf] at hroot
  have hm : isMp cs = false := by
    obtain ⟨o, h1, h2⟩ := hroot.2.obj
    rw [hheap] at h1; cases h1
    exact h2.2.notMp
  exact h.setObj hf (.setRow _ _ _) (setRow_heap _ _ _ _ _ _ hheap) ⟨rfl, hl⟩ (by rw [isMa_of hm, isMa_of hl.notMp]) hfr hnd
theorem Trans.chg {g : Nat} (φ : Ph) (hch : Chg g w w') (hz : Z g) : Trans Z φ w φ w' :=
  ⟨.refl φ, fun b hb _ => hch.other _ (by intro e; subst e; exact hb hz), fun _ _ _ => rfl, by rw [hch.size]; exact Nat.le_refl _, hch.rest⟩
theorem Trans.setRow {g : Nat} {arr' : Array Value} (φ : Ph) (hz : Z g) : Trans Z φ w φ (w.setRow g arr') :=
  ⟨.refl φ, fun b hb _ => setRow_other _ _ _ _ (by intro e; subst e; exact hb hz), fun _ _ _ => rfl, by rw [setRow_size]; exact Nat.le_refl _, .setRow _ _ _⟩

theorem cells_of_slot {v : Value} {s : Slot} (h : SlotRep e v s) (hu : anyUn (slotLeaves s) = false) (hne : slotLeaves s ≠ []) : LeavesRep e v.cells.toList (slotLeaves s) := by
  cases s with
  | sc l =>
    simp only [slotLeaves] at hu ⊢
    have hone : ∀ l, LeafRep e [v] l → LeavesRep e v.cells.toList [l] := by
      intro l hl
      have hc := hl.cells v (by simp)
      have : v.cells.toList = [v] := by cases v <;> simp_all [Value.cells, Value.oneCell']
      rw [this]; exact ⟨[v], [], rfl, hl, rfl⟩
    cases l with
    | un => simp [anyUn, isUn] at hu
    | hs x => simp only [SlotRep] at h; rw [h]; exact ⟨hcells x, [], by simp [Value.cells], rfl, rfl⟩
    | p m => simp only [SlotRep] at h; exact hone _ h
    | nil => simp only [SlotRep] at h; exact hone _ h
    | mp s es => simp [anyUn, isUn] at hu
    | own f => simp only [SlotRep] at h; exact hone _ h
  | ag cs => simp only [SlotRep] at h; obtain ⟨arr, rfl, hl⟩ := h; exact hl
  | _ => exact absurd rfl hne

theorem run_storeAt_row {t : TypeId} {I : TI} {blk off : Nat} {v : Value} {arr : Array Value} {T : TypeId} (hr : RowOK c.ti P t I) (hc : I.comps = []) (hs : v.cells.toList.length = I.size)
    (hone : ∀ u ∈ v.cells.toList, u.oneCell' = true) (hheap : w.heap[blk]? = some (.cells arr T (0, 0))) (hfit : off + I.size ≤ arr.size) :
    (Instr.storeAt t (.pointer (some ⟨blk, off, none⟩)) v).run P w = .ok () (w.setRow blk (arr.toList.take off ++ v.cells.toList ++ arr.toList.drop (off + I.size)).toArray) := by
  obtain ⟨i, hi, hsz, _⟩ := hr.info hc
  have h1 := run_storeCells_at P blk off T v.cells.toList 0 arr w hheap (by omega) hone
  rw [Nat.add_zero, hs] at h1
  have h2 : v.cells.size = i.size := by rw [hsz, ← hs]; simp
  simp [Instr.storeAt, Instr.sureAddr, storeVar, Go.sizeOf, typeInfo, hi, h2, h1]

theorem setDst_un {st' : St} (hK : setDst c st' o.dst (.sc .un) K = some r) (h : Sim c Z e st' a w) : ∃ e2 st2, Sim c Z e2 st2 (a.put o.dst undef) w ∧ K st2 = some r ∧ e2.φ = e.φ :=
  setDst_sim h (by simp [NewRep, SlotRep, rootOK]) hK

/-- a store into a variable of the function's own -/
theorem store_box {t : TypeId} {I : TI} {root off : Nat} {v : Value} {cs ls cs' : List Leaf} {K' : St → Option R} (hm0 : isMp cs = false) (hr : RowOK c.ti P t I) (hc : I.comps = []) (h : Sim c Z e st a w)
    (hf : fget st.fr root = .box cs) (hv : LeavesRep e v.cells.toList ls) (hsum : sumW ls = I.size) (hp : putAt cs off ls = some cs') (hK : wr st root (.box cs') K' = some r) :
    ∃ w' st', (Instr.storeAt t (.pointer (some ⟨e.B root, off, none⟩)) v).run P w = .ok () w' ∧ Sim c Z e st' a w' ∧ Trans Z e.φ w e.φ w' ∧ K' st' = some r := by
  have hsl := h.slot root
  rw [hf] at hsl
  obtain ⟨arr, T, hheap, hlv⟩ := hsl.2.cells hm0
  obtain ⟨v1, v2, v3, he, h1, h2, h3⟩ := putAt_spec hp hlv hv
  have hlen := hv.width
  have hsz : arr.size = v1.length + v2.length + v3.length := by
    have : arr.toList.length = (v1 ++ v2 ++ v3).length := by rw [he]
    simp at this
    omega
  have hrun := run_storeAt_row (P := P) (w := w) (blk := e.B root) (off := off) hr hc (by rw [hlen, hsum]) hv.cells hheap (by omega)
  have htake : arr.toList.take off = v1 := by rw [he, List.append_assoc, List.take_left' h1]
  have hdrop : arr.toList.drop (off + I.size) = v3 := by
    rw [he]; exact List.drop_left' (by rw [List.length_append]; omega)
  rw [htake, hdrop] at hrun
  unfold wr at hK
  cases hn : nmem st.prot root with
  | true => simp [hn] at hK
  | false =>
    simp only [hn, cond_false, force_eq, fset_eq] at hK
    refine ⟨_, _, hrun, ?_, .setRow _ (orl hsl.2.zone (by rw [← h.defers.2.1, ← nmem_iff, hn]; simp)), hK⟩
    exact h.setBox hf hheap (by simpa using h3) (fun t => by rw [fget_fsetP]) (nodup_fsetP h.nodup)

end

end Dn
/-
  Owned slices that are shared from now on; what is handed to a callee. Conditions: none.
-/
set_option linter.unusedSimpArgs false
set_option linter.unusedVariables false
namespace Dn
open Go

section
variable {P : Program} {c : Ctx} {Z : Zone} {e : Env} {st : St} {a : Act} {w w' : World} {R : Type} {K : St → Option R} {r : R} {Q : Exit → Act → World → Prop} {o : Oper}

theorem ElemsRep.mono {key : Nat → Nat} {φ φ' : Ph} (h : PhLe φ φ') {size : Nat} {xs : List MV} : ∀ {cs : List Value}, ElemsRep key φ size cs xs → ElemsRep key φ' size cs xs := by
  induction xs with
  | nil => intro cs hh; exact hh
  | cons x xs ih => intro cs hh; obtain ⟨v, q, rfl, h1, h2, h3⟩ := hh; exact ⟨v, q, rfl, h1, h2.mono h, ih h3⟩
theorem ElemsRep.length {key : Nat → Nat} {φ : Ph} {size : Nat} {xs : List MV} : ∀ {cs : List Value}, ElemsRep key φ size cs xs → cs.length = xs.length * size := by
  induction xs with
  | nil => intro cs hh; cases hh; simp
  | cons x xs ih => intro cs hh; obtain ⟨v, q, rfl, h1, h2, h3⟩ := hh; simp [h1, ih h3, Nat.succ_mul, Nat.add_comm]
theorem osetP_self {m : List (Nat × Own)} {f : Nat} {o : Own} (h : oget m f = some o) : osetP m f o = m := by
  induction m with
  | nil => simp [oget] at h
  | cons p r ih =>
    obtain ⟨k, x⟩ := p
    simp only [oget, osetP, nbeq] at h ⊢
    by_cases hk : k = f
    · subst hk; simp at h; subst h; simp
    · simp only [hk, decide_false, cond_false] at h ⊢; rw [ih h]

/-- what lies in the block of an owned slice is known from now on -/
def phRow (φ : Ph) (v : Value) (cells : List Value) : Ph := fun b off => if v.ownBlock = some b ∧ off < cells.length then cells[off]? else φ b off

theorem owns_unique {base : Nat} {t : TypeId} {size n : Nat} {v : Value} {xs ys : List Value} (h : w.ownsRow base t size v n xs) (h' : w.ownsRow base t size v n ys) {b : Nat} (hb : v.ownBlock = some b) : xs = ys := by
  rcases h.2 with ⟨h1, _⟩ | ⟨g, cap, cur, h1, _, h2, _, _, _, h3⟩
  · rw [h1] at hb; simp [Value.ownBlock] at hb
  · rcases h'.2 with ⟨h1', _⟩ | ⟨g', cap', cur', h1', _, h2', _, _, _, h3'⟩
    · rw [h1'] at hb; simp [Value.ownBlock] at hb
    · rw [h1] at h1'
      simp at h1'
      obtain ⟨rfl, rfl⟩ := h1'
      rw [h2] at h2'
      simp at h2'
      subst h2'
      rw [← h3, ← h3']
theorem freeze {f : Nat} {o : Own} (h : Sim c Z e st a w) (hf : oget st.fams f = some o) (hp : f ∉ Z.pfam ∨ o.frz = true) :
    ∃ φ', PhLe e.φ φ' ∧ (∀ b off, ¬ Z b → φ' b off = e.φ b off) ∧ Sim c Z { e with φ := φ', m := osetP e.m f ⟨o.ty, true, o.xs⟩ } { st with fams := osetP st.fams f ⟨o.ty, true, o.xs⟩ } a w ∧
      Rep e.key φ' [e.E f] (.list o.xs) ∧
      (∀ I cells, c.ti o.ty = some I → w.ownsRow 0 o.ty I.size (e.E f) o.xs.length cells → ∀ blk, (e.E f).ownBlock = some blk → ∀ j, j < cells.length → φ' blk j = cells[j]?) := by
  obtain ⟨I, cells, hI, hIc, hown, hels, hz⟩ := (h.fam f o hf).row
  have hlen := hels.length
  have hle : PhLe e.φ (phRow e.φ (e.E f) cells) := by
    intro b off v hv
    unfold phRow
    by_cases hc : (e.E f).ownBlock = some b ∧ off < cells.length
    · simp only [hc, and_self, if_true]
      obtain ⟨hb, ho⟩ := hc
      rcases hown.2 with ⟨hE, _⟩ | ⟨g, cap, cur, hE, _, hg, hn, hcm, hcs, htk⟩
      · rw [hE] at hb; simp [Value.ownBlock] at hb
      · rw [hE] at hb
        simp only [Value.ownBlock, Option.some.injEq] at hb
        subst hb
        have := h.imm _ _ _ hv
        rw [cell_of hg] at this
        rw [← htk, List.getElem?_take]
        have ho2 : off < o.xs.length * I.size := by omega
        simp only [ho2, if_true]
        simpa using this
    · simp only [hc, if_false]; exact hv
  have himm : ∀ b off v, phRow e.φ (e.E f) cells b off = some v → w.cell? ⟨b, off, none⟩ = some v := by
    intro b off v hv
    unfold phRow at hv
    by_cases hc : (e.E f).ownBlock = some b ∧ off < cells.length
    · simp only [hc, and_self, if_true] at hv
      rcases hown.2 with ⟨hE, _⟩ | ⟨g, cap, cur, hE, _, hg, hn, hcm, hcs, htk⟩
      · rw [hE] at hc; simp [Value.ownBlock] at hc
      · rw [hE] at hc
        simp only [Value.ownBlock, Option.some.injEq] at hc
        obtain ⟨hb, ho⟩ := hc
        subst hb
        rw [cell_of hg]
        rw [← htk, List.getElem?_take] at hv
        have ho2 : off < o.xs.length * I.size := by omega
        simp only [ho2, if_true] at hv
        simpa using hv
    · simp only [hc, if_false] at hv; exact h.imm _ _ _ hv
  have hzone : ∀ b off, ¬ Z b → phRow e.φ (e.E f) cells b off = e.φ b off := by
    intro b off hb
    unfold phRow
    by_cases hc : (e.E f).ownBlock = some b ∧ off < cells.length
    · by_cases hpf : f ∈ Z.pfam
      · simp only [hc, and_self, if_true]
        exact (((hz b hc.1).2.2 hpf (hp.resolve_left (fun hn => hn hpf))) off hc.2).symm
      · exact absurd (orl (hz b hc.1).1 hpf) hb
    · simp [hc]
  have hother : ∀ b off, (e.E f).ownBlock ≠ some b → phRow e.φ (e.E f) cells b off = e.φ b off := by
    intro b off hb; unfold phRow; simp [hb]
  have hon : EnvOn (fun _ => True) (fun _ => True) e { e with φ := phRow e.φ (e.E f) cells, m := osetP e.m f ⟨o.ty, true, o.xs⟩ } := by
    refine ⟨rfl, hle, fun _ _ => rfl, ?_⟩
    intro f2 o2 ho2 _
    have ho2 : oget (osetP e.m f ⟨o.ty, true, o.xs⟩) f2 = some o2 := ho2
    rw [oget_osetP] at ho2
    by_cases hff : f2 = f
    · subst hff; simp at ho2; subst ho2; exact ⟨o, by rw [h.m]; exact hf, rfl, rfl⟩
    · simp only [hff, if_false] at ho2; exact ⟨o2, ho2, rfl, rfl⟩
  have hall : ∀ s : Slot, slotOn (fun _ => True) (fun _ => True) s := by
    intro s; cases s <;> simp [slotOn, leafOn]
  refine ⟨_, hle, hzone, ?_, ?_, ?_⟩
  rotate_right
  · intro I' cells' hI' hown' blk hb j hj
    rw [hI] at hI'
    cases hI'
    have hcc := owns_unique hown hown' hb
    subst hcc
    unfold phRow
    simp [hb, hj]
  · refine ⟨h.defers, h.size, by show osetP e.m f _ = osetP st.fams f _; rw [h.m], h.key, h.nodup, ?_, h.root, ?_, h.bb, ?_, ?_, himm, h.zone⟩
    · intro t
      have hs := h.slot t
      have hbf := h.bf t
      show SlotAt Z _ w t _ (fget st.fr t)
      generalize fget st.fr t = s at hs hbf
      cases s <;> simp only [SlotAt] at hs ⊢ <;> try exact hs.on hon (hall _)
      rename_i cs
      refine ⟨hs.1, hs.2.zone, ?_, ?_⟩
      · obtain ⟨o2, h1, h2⟩ := hs.2.obj
        exact ⟨o2, h1, h2.on hon (fun l _ f _ => trivial)⟩
      · intro off
        show phRow e.φ (e.E f) cells (e.B t) off = none
        rw [hother _ _ (hbf cs f o rfl hf)]; exact hs.2.free off
    · intro f2 o2 ho2
      have ho2 : oget (osetP st.fams f ⟨o.ty, true, o.xs⟩) f2 = some o2 := ho2
      rw [oget_osetP] at ho2
      by_cases hff : f2 = f
      · subst hff
        simp at ho2
        subst ho2
        refine ⟨I, cells, hI, hIc, hown, hels.mono hle, ?_⟩
        intro blk hb
        refine ⟨(hz blk hb).1, ?_, ?_⟩
        rotate_left
        · intro _ _ j hj
          show phRow e.φ (e.E f2) cells blk j = _
          have hb : (e.E f2).ownBlock = some blk := hb
          unfold phRow
          simp [hb, hj]
        intro off u hu
        refine ⟨rfl, ?_⟩
        have hu : phRow e.φ (e.E f2) cells blk off = some u := hu
        unfold phRow at hu
        by_cases hc : (e.E f2).ownBlock = some blk ∧ off < cells.length
        · show off < o.xs.length * I.size; rw [← hlen]; exact hc.2
        · simp only [hc, if_false] at hu; exact ((hz blk hb).2.1 off u hu).2
      · simp only [hff, if_false] at ho2
        obtain ⟨I2, cells2, h1, h2, h3, h4, h5⟩ := (h.fam f2 o2 ho2).row
        refine ⟨I2, cells2, h1, h2, h3, h4.mono hle, ?_⟩
        intro blk hb
        refine ⟨(h5 blk hb).1, ?_, ?_⟩
        rotate_left
        · intro g1 g2 j hj
          show phRow e.φ (e.E f) cells blk j = _
          rw [hother _ _ (fun hbf => hff (h.ff f2 f o2 o blk ho2 hf hb hbf))]
          exact (h5 blk hb).2.2 g1 g2 j hj
        intro off u hu
        have hu : phRow e.φ (e.E f) cells blk off = some u := hu
        rw [hother _ _ (fun hbf => hff (h.ff f2 f o2 o blk ho2 hf hb hbf))] at hu
        exact (h5 blk hb).2.1 off u hu
    · intro t cs f2 o2 h1 h2
      have h2 : oget (osetP st.fams f ⟨o.ty, true, o.xs⟩) f2 = some o2 := h2
      rw [oget_osetP] at h2
      by_cases hff : f2 = f
      · subst hff; exact h.bf t cs f2 o h1 hf
      · simp only [hff, if_false] at h2; exact h.bf t cs f2 o2 h1 h2
    · intro f1 f2 o1 o2 k h1 h2 h3 h4
      have h1 : oget (osetP st.fams f ⟨o.ty, true, o.xs⟩) f1 = some o1 := h1
      have h2 : oget (osetP st.fams f ⟨o.ty, true, o.xs⟩) f2 = some o2 := h2
      rw [oget_osetP] at h1 h2
      have g1 : ∃ o', oget st.fams f1 = some o' := by
        by_cases hff : f1 = f
        · subst hff; exact ⟨o, hf⟩
        · simp only [hff, if_false] at h1; exact ⟨o1, h1⟩
      have g2 : ∃ o', oget st.fams f2 = some o' := by
        by_cases hff : f2 = f
        · subst hff; exact ⟨o, hf⟩
        · simp only [hff, if_false] at h2; exact ⟨o2, h2⟩
      obtain ⟨q1, g1⟩ := g1
      obtain ⟨q2, g2⟩ := g2
      exact h.ff f1 f2 q1 q2 k g1 g2 h3 h4
  · have hels2 := hels.mono hle
    rcases hown.2 with ⟨hE, hn⟩ | ⟨g, cap, cur, hE, _, hg, hn, hcm, hcs, htk⟩
    · have hx : o.xs = [] := List.eq_nil_of_length_eq_zero hn
      have hv : [e.E f] = [Value.slice none 0 0] := by rw [hE]
      rw [hv, hx]
      exact .list none 0 [] 0 0 0 (fun _ => []) (by simp) (by simp) (by simp) (by simp) (by simp)
    · have hv : [e.E f] = [Value.slice (some ⟨g, 0, none⟩) o.xs.length cap] := by rw [hE]
      rw [hv]
      have hseg : ∀ i (hi : i < o.xs.length), ∃ v1, v1.length = I.size ∧ Rep e.key (phRow e.φ (e.E f) cells) v1 o.xs[i] ∧ (cells.drop (i * I.size)).take I.size = v1 := by
        intro i hi
        obtain ⟨p1, v1, p2, he, hl1, hl2, hrep⟩ := hels2.at (List.getElem?_eq_getElem hi)
        refine ⟨v1, hl2, hrep, ?_⟩
        rw [he, List.append_assoc, ← hl1, List.drop_left, ← hl2, List.take_left]
      refine .list (some ⟨g, 0, none⟩) cap o.xs g 0 I.size (fun i => (cells.drop (i * I.size)).take I.size) hn (fun _ => rfl) ?_ ?_ ?_
      · intro i hi
        obtain ⟨v1, h1, _, h3⟩ := hseg i hi
        rw [h3, h1]
      · intro i j hi hj
        have hb : (e.E f).ownBlock = some g := by rw [hE]; rfl
        have hoff : i * I.size + j < cells.length := by
          rw [hlen]
          calc i * I.size + j < i * I.size + I.size := by omega
            _ = (i + 1) * I.size := by rw [Nat.succ_mul]
            _ ≤ o.xs.length * I.size := Nat.mul_le_mul_right _ hi
        rw [Nat.zero_add]
        unfold phRow
        simp only [hb, hoff, and_self, if_true]
        rw [List.getElem?_take]
        simp only [hj, if_true, List.getElem?_drop]
      · intro i hi
        obtain ⟨v1, _, h2, h3⟩ := hseg i hi
        rw [h3]; exact h2
end

end Dn
/-
  Arguments and results. Conditions: none.
-/
set_option linter.unusedSimpArgs false
set_option linter.unusedVariables false
namespace Dn
open Go

/-- more is known of what no one changes; all else is as it was -/
structure Ext (Z : Nat → Prop) (e e' : Env) : Prop where
  on : EnvOn (fun _ => True) (fun _ => True) e e'
  zone : ∀ b off, ¬ Z b → e'.φ b off = e.φ b off
theorem Ext.refl (Z : Nat → Prop) (e : Env) : Ext Z e e := ⟨⟨rfl, .refl _, fun _ _ => rfl, fun f o h _ => ⟨o, h, rfl, rfl⟩⟩, fun _ _ _ => rfl⟩
theorem Ext.trans {Z : Nat → Prop} {e e' e'' : Env} (h : Ext Z e e') (h' : Ext Z e' e'') : Ext Z e e'' := by
  refine ⟨⟨h'.on.key.trans h.on.key, h.on.φ.trans h'.on.φ, fun r hr => (h'.on.B r hr).trans (h.on.B r hr), ?_⟩, fun b off hb => (h'.zone b off hb).trans (h.zone b off hb)⟩
  intro f o ho _
  obtain ⟨o1, h1, h2, h3⟩ := h'.on.fam f o ho trivial
  obtain ⟨o2, h4, h5, h6⟩ := h.on.fam f o1 h1 trivial
  exact ⟨o2, h4, h2.trans h5, h3.trans h6⟩
theorem Ext.tr {Z : Nat → Prop} {e e' : Env} {w : World} (h : Ext Z e e') : Trans Z e.φ w e'.φ w := ⟨h.on.φ, fun _ _ _ => rfl, h.zone, Nat.le_refl _, .refl _⟩
theorem slotOn_all (s : Slot) : slotOn (fun _ => True) (fun _ => True) s := by cases s <;> simp [slotOn, leafOn]

def ArgReps (key : Nat → Nat) (φ : Ph) : List Value → List MV → Prop
  | vs, [] => vs = []
  | vs, m :: ms => ∃ v r, vs = v :: r ∧ ArgRep key φ v m ∧ ArgReps key φ r ms
theorem ArgReps.mono {key : Nat → Nat} {φ φ' : Ph} (h : PhLe φ φ') {ms : List MV} : ∀ {vs : List Value}, ArgReps key φ vs ms → ArgReps key φ' vs ms := by
  induction ms with
  | nil => intro vs hh; exact hh
  | cons m ms ih => intro vs hh; obtain ⟨v, r, rfl, h1, h2⟩ := hh; exact ⟨v, r, rfl, h1.mono h, ih h2⟩
theorem ArgReps.append {key : Nat → Nat} {φ : Ph} {ms ns : List MV} : ∀ {vs us : List Value}, ArgReps key φ vs ms → ArgReps key φ us ns → ArgReps key φ (vs ++ us) (ms ++ ns) := by
  induction ms with
  | nil => intro vs us h h'; cases h; simpa using h'
  | cons m ms ih => intro vs us h h'; obtain ⟨v, r, rfl, h1, h2⟩ := h; exact ⟨v, r ++ us, rfl, h1, ih h2 h'⟩

section
variable {P : Program} {c : Ctx} {Z : Zone} {e : Env} {st : St} {a : Act} {w w' : World} {R : Type} {r : R} {Q : Exit → Act → World → Prop} {o : Oper}

theorem shLeaf_spec {l : Leaf} {vs : List Value} {K : MV → St → Option R} (h : Sim c Z e st a w) (hl : LeafRep e vs l) (hK : shLeaf st l K = some r) :
    ∃ e' st' m, Sim c Z e' st' a w ∧ Ext Z e e' ∧ st'.fr = st.fr ∧ Rep e'.key e'.φ vs m ∧ K m st' = some r ∧ (pureL l = true → e' = e ∧ st' = st) ∧ (∀ f, l = .own f → ∃ o, oget st.fams f = some o ∧ m = .list o.xs) ∧ ((∀ x, l ≠ .hs x) → m.one = true) := by
  cases l with
  | un => simp [shLeaf] at hK
  | p m => exact ⟨e, st, m, h, .refl _ _, rfl, hl.2, hK, fun _ => ⟨rfl, rfl⟩, by simp, fun _ => hl.1⟩
  | hs x => have hl : vs = hcells x := hl; subst hl; exact ⟨e, st, .h x, h, .refl _ _, rfl, .h x, hK, fun _ => ⟨rfl, rfl⟩, by simp, fun hx => absurd rfl (hx x)⟩
  | nil =>
    have hl : vs = [.slice none 0 0] := hl
    subst hl
    exact ⟨e, st, .list [], h, .refl _ _, rfl, .list none 0 [] 0 0 0 (fun _ => []) (by simp) (by simp) (by simp) (by simp) (by simp), hK, fun hp => by simp [pureL] at hp, fun _ he => (by cases he), fun _ => rfl⟩
  | mp s es => simp [shLeaf] at hK
  | own f =>
    simp only [shLeaf] at hK
    cases hf : oget st.fams f with
    | none => simp [hf] at hK
    | some o =>
      simp only [hf] at hK
      have hpf : f ∉ Z.pfam ∨ o.frz = true := by
        cases hz : o.frz with
        | true => exact .inr rfl
        | false =>
          refine .inl (fun hm => ?_)
          rw [← h.defers.2.2.1, ← nmem_iff] at hm
          simp [hz, hm] at hK
      obtain ⟨φ', h1, h2, h3, h4, _⟩ := freeze h hf hpf
      obtain ⟨v, rfl, hv, hE⟩ := hl
      have hE := hE o (by rw [h.m]; exact hf)
      subst hE
      have hext : Ext Z e { e with φ := φ', m := osetP e.m f ⟨o.ty, true, o.xs⟩ } := by
        refine ⟨⟨rfl, h1, fun _ _ => rfl, ?_⟩, h2⟩
        intro f2 o2 ho2 _
        have ho2 : oget (osetP e.m f ⟨o.ty, true, o.xs⟩) f2 = some o2 := ho2
        rw [oget_osetP] at ho2
        by_cases hff : f2 = f
        · subst hff; simp at ho2; subst ho2; exact ⟨o, by rw [h.m]; exact hf, rfl, rfl⟩
        · simp only [hff, if_false] at ho2; exact ⟨o2, ho2, rfl, rfl⟩
      cases hz : o.frz with
      | true =>
        simp only [hz, cond_true] at hK
        have hself : osetP st.fams f ⟨o.ty, true, o.xs⟩ = st.fams := by
          rw [← hz]; exact osetP_self hf
        rw [hself] at h3
        exact ⟨_, st, .list o.xs, h3, hext, rfl, h4, hK, fun hp => by simp [pureL] at hp, fun _ he => by cases he; exact ⟨o, hf, rfl⟩, fun _ => rfl⟩
      | false =>
        simp only [hz, cond_false] at hK
        cases hn : nmem st.pfam f with
        | true => simp [hn] at hK
        | false =>
          simp only [hn, cond_false, oset_eq] at hK
          exact ⟨_, _, .list o.xs, h3, hext, rfl, h4, hK, fun hp => by simp [pureL] at hp, fun _ he => by cases he; exact ⟨o, hf, rfl⟩, fun _ => rfl⟩

theorem shLeaves_spec {ls : List Leaf} : ∀ {e : Env} {st : St} {vs : List Value} {K : List MV → St → Option R}, Sim c Z e st a w → LeavesRep e vs ls → shLeaves st ls K = some r →
    ∃ e' st' ms, Sim c Z e' st' a w ∧ Ext Z e e' ∧ st'.fr = st.fr ∧ RepL e'.key e'.φ vs ms ∧ K ms st' = some r ∧ (pureLsB ls = true → e' = e ∧ st' = st) ∧ (∀ ps, pureLs ls ms = some ps → LeavesRep e' vs ps ∧ pureLsB ps = true) := by
  induction ls with
  | nil => intro e st vs K h hl hK; cases hl; exact ⟨e, st, [], h, .refl _ _, rfl, .nil, hK, fun _ => ⟨rfl, rfl⟩, fun ps hp => by simp [pureLs] at hp; subst hp; exact ⟨rfl, rfl⟩⟩
  | cons l ls ih =>
    intro e st vs K h hl hK
    obtain ⟨v, u, rfl, h1, h2⟩ := hl
    simp only [shLeaves] at hK
    obtain ⟨e1, st1, m, hs1, hx1, hfr1, hr1, hK1, hp1, _, hone⟩ := shLeaf_spec h h1 hK
    obtain ⟨e2, st2, ms, hs2, hx2, hfr2, hr2, hK2, hp2, hps⟩ := ih hs1 (h2.on hx1.on (fun l _ f _ => trivial)) hK1
    have hrm : Rep e2.key e2.φ v m := by
      have := hr1.mono hx2.on.φ
      rw [← hx2.on.key] at this; exact this
    refine ⟨e2, st2, m :: ms, hs2, hx1.trans hx2, hfr2.trans hfr1, .cons v m u ms ?_ hr2, hK2, ?_, ?_⟩
    · have := hr1.mono hx2.on.φ
      rw [← hx2.on.key] at this; exact this
    · intro hp
      simp only [pureLsB, Bool.and_eq_true] at hp
      obtain ⟨q1, q2⟩ := hp1 hp.1
      obtain ⟨q3, q4⟩ := hp2 hp.2
      exact ⟨q3.trans q1, q4.trans q2⟩
    · intro ps hp
      cases hq : pureLs ls ms with
      | none => cases l <;> simp [pureLs, hq] at hp
      | some q =>
        obtain ⟨g1, g2⟩ := hps q hq
        by_cases hh : ∃ x, l = .hs x
        · obtain ⟨x, rfl⟩ := hh
          simp [pureLs, hq] at hp
          subst hp
          exact ⟨⟨v, u, rfl, h1, g1⟩, by simp [pureLsB, pureL, g2]⟩
        · have hone := hone (fun x hx => hh ⟨x, hx⟩)
          have hp' : ps = .p m :: q := by cases l <;> simp [pureLs, hq] at hp <;> first | exact hp.symm | exact absurd ⟨_, rfl⟩ hh
          subst hp'
          exact ⟨⟨v, u, rfl, ⟨hone, hrm⟩, g1⟩, by simp [pureLsB, pureL, g2]⟩
theorem shSlot_spec {s : Slot} {v : Value} {K : MV → St → Option R} (h : Sim c Z e st a w) (hl : SlotRep e v s) (hK : shSlot st s K = some r) :
    ∃ e' st' m, Sim c Z e' st' a w ∧ Ext Z e e' ∧ st'.fr = st.fr ∧ ArgRep e'.key e'.φ v m ∧ K m st' = some r := by
  cases s with
  | sc l =>
    simp only [shSlot] at hK
    cases l with
    | un => simp [shLeaf] at hK
    | hs x =>
      simp only [SlotRep] at hl
      exact ⟨e, st, .h x, h, .refl _ _, rfl, by simpa [ArgRep, hcells] using hl, hK⟩
    | p m =>
      simp only [SlotRep] at hl
      refine ⟨e, st, m, h, .refl _ _, rfl, ?_, hK⟩
      obtain ⟨h1, h2⟩ := hl
      cases m <;> simp [MV.one] at h1 <;> exact ⟨rfl, h2⟩
    | nil =>
      simp only [SlotRep] at hl
      obtain ⟨e', st', m, q1, q2, q3, q4, q5, q6, _⟩ := shLeaf_spec h hl hK
      have hl : [v] = [Value.slice none 0 0] := hl
      refine ⟨e, st, .list [], h, .refl _ _, rfl, ⟨rfl, ?_⟩, hK⟩
      rw [hl]
      exact .list none 0 [] 0 0 0 (fun _ => []) (by simp) (by simp) (by simp) (by simp) (by simp)
    | mp s es => simp [shLeaf] at hK
    | own f =>
      simp only [SlotRep] at hl
      simp only [shLeaf] at hK
      cases hf : oget st.fams f with
      | none => simp [hf] at hK
      | some o =>
        obtain ⟨e', st', m, q1, q2, q3, q4, q5, q6, q7⟩ := shLeaf_spec (l := .own f) h hl (by simpa only [shLeaf, hf] using hK)
        obtain ⟨o2, _, rfl⟩ := q7.1 f rfl
        exact ⟨e', st', .list o2.xs, q1, q2, q3, ⟨rfl, q4⟩, q5⟩
  | ag cs =>
    simp only [SlotRep] at hl
    obtain ⟨arr, hv, hl⟩ := hl
    simp only [shSlot] at hK
    obtain ⟨e', st', ms, q1, q2, q3, q4, q5, _⟩ := shLeaves_spec h hl hK
    exact ⟨e', st', .agg ms, q1, q2, q3, ⟨arr, hv, q4⟩, q5⟩
  | rp cs off =>
    simp only [SlotRep] at hl
    obtain ⟨blk, q, vs, hv, hlv, hp, hphi⟩ := hl
    simp only [shSlot] at hK
    cases hb : Nat.beq off 0 with
    | false => simp [hb] at hK
    | true =>
      simp only [hb, cond_true] at hK
      have h0 := Nat.eq_of_beq_eq_true hb
      subst h0
      obtain ⟨e', st', ms, q1, q2, q3, q4, q5, q6⟩ := shLeaves_spec h hlv hK
      obtain ⟨rfl, rfl⟩ := q6.1 hp
      refine ⟨e', st', .rp ms, q1, q2, q3, ⟨rfl, ?_⟩, q5⟩
      rw [hv]
      exact .rp blk (q + 0) vs ms q4 (by simpa using hphi)
  | _ => simp [shSlot] at hK
theorem shSlots_spec {ss : List Slot} : ∀ {e : Env} {st : St} {vs : List Value} {K : List MV → St → Option R}, Sim c Z e st a w → (∃ f : Unit → List Value, f () = vs ∧ vs.length = ss.length ∧ ∀ (i : Nat) (v : Value) (s : Slot), vs[i]? = some v → ss[i]? = some s → SlotRep e v s) →
    shSlots st ss K = some r → ∃ e' st' ms, Sim c Z e' st' a w ∧ Ext Z e e' ∧ st'.fr = st.fr ∧ ArgReps e'.key e'.φ vs ms ∧ K ms st' = some r := by
  induction ss with
  | nil => intro e st vs K h hl hK; obtain ⟨f, _, hlen, _⟩ := hl; have := List.eq_nil_of_length_eq_zero hlen; subst this; exact ⟨e, st, [], h, .refl _ _, rfl, rfl, hK⟩
  | cons s ss ih =>
    intro e st vs K h hl hK
    obtain ⟨f, _, hlen, hrep⟩ := hl
    cases vs with
    | nil => simp at hlen
    | cons v vs =>
      simp only [shSlots] at hK
      obtain ⟨e1, st1, m, q1, q2, q3, q4, q5⟩ := shSlot_spec h (hrep 0 v s rfl rfl) hK
      obtain ⟨e2, st2, ms, p1, p2, p3, p4, p5⟩ := ih (vs := vs) q1 ⟨fun _ => vs, rfl, by simpa using hlen, fun i v s h1 h2 => (hrep (i + 1) v s (by simpa using h1) (by simpa using h2)).on q2.on (slotOn_all s)⟩ q5
      refine ⟨e2, st2, m :: ms, p1, q2.trans p2, p3.trans q3, ⟨v, vs, rfl, ?_, p4⟩, p5⟩
      have := q4.mono p2.on.φ
      rw [← p2.on.key] at this; exact this
end

end Dn
/-
  Parts of structs, lengths, the least and the greatest, places of elements. Conditions: none.
-/
set_option linter.unusedSimpArgs false
set_option linter.unusedVariables false
namespace Dn
open Go

section
variable {P : Program} {c : Ctx} {Z : Zone} {e : Env} {st : St} {a : Act} {w w' : World} {R : Type} {K : St → Option R} {r : R} {Q : Exit → Act → World → Prop} {o : Oper}

theorem run_isAgg {t : TypeId} {I : TI} (hr : RowOK c.ti P t I) (hc : I.comps = []) :
    ((I.st = true ∨ I.size = 32) ∧ ∀ w : World, (isAgg t).run P w = .ok true w) ∨ (I.st = false ∧ I.size = 1 ∧ ∀ w : World, (isAgg t).run P w = .ok false w) := by
  rcases hr.agg hc with ⟨d, hu, hd, hh⟩ | ⟨d, hu, hd, h1, h2⟩
  · refine .inl ⟨hh.imp id (·.2), fun w => ?_⟩
    unfold isAgg; rw [Sem.run_bind, run_underlying hu w]; cases d <;> simp_all [TypeDesc.isRow]
  · refine .inr ⟨h1, h2, fun w => ?_⟩
    unfold isAgg; rw [Sem.run_bind, run_underlying hu w]; cases d <;> simp_all [TypeDesc.isRow]

theorem part_run {t : TypeId} {I : TI} {cs : List Leaf} {off : Nat} {arr : Array Value} {K' : Slot → Option R} (hr : RowOK c.ti P t I) (hc : I.comps = [])
    (hv : LeavesRep e arr.toList cs) (hK : ldLeaves I cs off K' = some r) :
    ∃ v s, (∀ w : World, (Go.part t arr off).run P w = .ok v w) ∧ SlotRep e v s ∧ rootOK st.fr s ∧ K' s = some r := by
  obtain ⟨i, hi, hs, _⟩ := hr.info hc
  have ext : ∀ v1 v2 v3 : List Value, arr.toList = v1 ++ v2 ++ v3 → v1.length = off → (arr.extract off (off + v2.length)) = v2.toArray := by
    intro v1 v2 v3 h1 h2
    apply Array.toList_inj.1
    rw [Array.toList_extract, h1, List.extract_eq_take_drop, List.append_assoc, ← h2, List.drop_left]
    simp
  unfold ldLeaves at hK
  cases hst : I.st with
  | true =>
    simp only [hst, cond_true] at hK
    cases hp : Dn.part cs off I.size with
    | none => simp [hp] at hK
    | some ds =>
      simp only [hp] at hK
      obtain ⟨v1, v2, v3, h0, h1, h2, h3⟩ := part_spec hp hv
      rcases run_isAgg (P := P) hr hc with ⟨_, hag⟩ | ⟨hf, _⟩
      · refine ⟨.agg v2.toArray, .ag ds, ?_, ?_, trivial, hK⟩
        · have hx := ext v1 v2 v3 h0 h1
          rw [h2] at hx
          simp [Go.part, hag, Go.sizeOf, typeInfo, hi, hs, hx]
        · simp only [SlotRep]; exact ⟨_, rfl, by simpa using h3⟩
      · rw [hst] at hf; cases hf
  | false =>
    simp only [hst, cond_false] at hK
    cases hp : cut cs off with
    | none => simp [hp] at hK
    | some ds =>
      cases ds with
      | nil => simp [hp] at hK
      | cons l ls =>
        simp only [hp] at hK
        cases hb : Nat.beq l.w I.size with
        | false => simp [hb] at hK
        | true =>
          simp only [hb, cond_true] at hK
          have hw := Nat.eq_of_beq_eq_true hb
          obtain ⟨v1, v2, h0, h1, h2⟩ := cut_spec hp hv
          obtain ⟨u, u2, rfl, h3, h4⟩ := h2
          have hlu : u.length = I.size := by rw [h3.width, hw]
          rcases run_isAgg (P := P) hr hc with ⟨hh, hag⟩ | ⟨_, h1s, hag⟩
          · refine ⟨.agg u.toArray, .sc l, ?_, h3.slot (.inr ⟨rfl, ?_⟩), trivial, hK⟩
            · have hx := ext v1 u u2 (by rw [h0, List.append_assoc]) h1
              rw [hlu] at hx
              simp [Go.part, hag, Go.sizeOf, typeInfo, hi, hs, hx]
            · rcases hh with hh | hh
              · rw [hst] at hh; cases hh
              · rw [hw, hh]
          · obtain ⟨v, rfl⟩ := List.length_eq_one_iff.1 (by rw [hlu, h1s])
            refine ⟨v, .sc l, ?_, h3.slot (.inl ⟨rfl, ?_⟩), trivial, hK⟩
            · have : arr[off]? = some v := by
                have : arr[off]? = arr.toList[off]? := by simp
                rw [this, h0, List.getElem?_append_right (by omega), h1]; simp
              simp [Go.part, hag, this]
            · rw [hw, h1s]

theorem op_fld {t : TypeId} {x : Operand} {f : Nat} {I : TI} (ho : o.op = .field t x f) (hI : c.tv t = some I) (hT : TIok P c.ti) (h : Sim c Z e st a w)
    (hK : fldK c I f (evalO c st x) (fun s => setDst c st o.dst s K) = some r) : Rd P c Z K r e a w o (fun _ => True) := by
  obtain ⟨hx, hrt⟩ := h.eval x
  obtain ⟨hti, hc⟩ := tv_some hI
  obtain ⟨d, i, h1, h2, h3, h4⟩ := hT t I hti
  generalize evalO c st x = s at hx hK hrt
  unfold fldK at hK
  split at hK
  · rename_i q y cs hst hq hy
    simp only [SlotRep] at hx
    obtain ⟨arr, hx, hlv⟩ := hx
    cases hJ : c.tv y with
    | none => simp [hJ] at hK
    | some J =>
      simp only [hJ] at hK
      obtain ⟨hJt, hJc⟩ := tv_some hJ
      obtain ⟨v, s, hrun, h5, h6, h7⟩ := part_run (P := P) (st := st) (hT y J hJt) hJc hlv hK
      refine fin0 (v := v) h ?_ h5 h6 h7
      cases d <;> simp only [RowD] at h4
      case struct fs =>
        obtain ⟨_, _, _, ho1, ho2, _⟩ := h4
        rw [← ho1, List.getElem?_map] at hq
        rw [← ho2, List.getElem?_map] at hy
        cases hf : fs.toList[f]? with
        | none => simp [hf] at hq
        | some fl =>
          simp [hf] at hq hy
          subst hq; subst hy
          have hf' : fs[f]? = some fl := by simpa using hf
          simp [execOp, ho, hx, Instr.field, run_underlying h1, hf', asAgg, hrun]
      all_goals (exfalso; simp_all)
  · simp at hK

theorem TI.isL_of {I : TI} {t : TypeId} (hr : RowOK c.ti P t I) (h : I.isL = true) : P.underlying t = some (.slice I.elem) ∧ ∃ E, c.ti I.elem = some E ∧ E.comps = [] ∧ 0 < E.size := by
  unfold TI.isL at h
  split at h
  · rename_i hst hl
    obtain ⟨d, i, h1, h2, h3, h4⟩ := hr
    cases d <;> simp only [RowD, hl, hst] at h4 <;> first | (exfalso; simp_all; done) | skip
    obtain ⟨_, _, _, rfl, hE, _⟩ := h4
    exact ⟨h1, hE⟩
  · cases h
theorem TI.isS_of {I : TI} {t : TypeId} (hr : RowOK c.ti P t I) (h : I.isS = true) : P.underlying t = some .string := by
  unfold TI.isS at h
  split at h
  · rename_i hst hl
    obtain ⟨d, i, h1, h2, h3, h4⟩ := hr
    cases d <;> simp only [RowD, hl, hst] at h4 <;> first | (exfalso; simp_all; done) | skip
    exact h1
  · cases h
theorem rep_list {v : Value} {xs : List MV} (h : SlotRep e v (.sc (.p (.list xs)))) : ∃ ad cap, v = .slice ad xs.length cap ∧ xs.length ≤ cap := by
  simp only [SlotRep, LeafRep] at h
  obtain ⟨_, h⟩ := h
  generalize hv : [v] = vs at h
  cases h
  exact ⟨_, _, by simpa using hv, by assumption⟩
theorem own_val {f : Nat} {w' : Own} {v : Value} (h : Sim c Z e st a w) (hv : SlotRep e v (.sc (.own f))) (hf : oget st.fams f = some w') : v = e.E f ∧ ∃ ad cap, v = .slice ad w'.xs.length cap ∧ w'.xs.length ≤ cap := by
  simp only [SlotRep] at hv
  obtain ⟨u, hu, _, hE⟩ := hv
  simp at hu; subst hu
  have hE := hE w' (by rw [h.m]; exact hf)
  refine ⟨hE, ?_⟩
  obtain ⟨I, cells, _, _, hown, _⟩ := (h.fam f w' hf).row
  rcases hown.2 with ⟨h1, h2⟩ | ⟨g, cap, cur, h1, _, _, h2, _⟩
  · exact ⟨none, 0, by rw [hE, h1, h2], by omega⟩
  · exact ⟨_, cap, by rw [hE, h1], h2⟩
theorem evals_spec {l : List Operand} : evals c st l = l.map (evalO c st) := by
  induction l with
  | nil => rfl
  | cons x r ih => simp [evals, ih]

theorem op_len {cl : Call} {t : TypeId} {I : TI} (ho : o.op = .call cl) (hb : cl.callee = .builtin .len) (ha : cl.argTypes.toList = [t]) (hI : c.tv t = some I) (hT : TIok P c.ti) (h : Sim c Z e st a w)
    (hK : lenK I st (evals c st cl.args.toList) (fun s => setDst c st o.dst s K) = some r) : Rd P c Z K r e a w o (fun _ => True) := by
  obtain ⟨hti, hc⟩ := tv_some hI
  have hr := hT t I hti
  have hat : cl.argTypes = #[t] := by rw [← Array.toList_inj, ha]
  rw [evals_spec] at hK
  have go : ∀ x, cl.args.toList = [x] → ∀ n : Nat, (∃ b : ByteArray, a.eval x = .string b ∧ b.size = n ∧ P.underlying t = some .string) ∨ (∃ ad cap, a.eval x = .slice ad n cap ∧ ∃ el, P.underlying t = some (.slice el)) →
      setDst c st o.dst (.sc (.p (.i .i64 n))) K = some r → Rd P c Z K r e a w o (fun _ => True) := by
    intro x hx n hcase hK
    have hx' : cl.args = #[x] := by rw [← Array.toList_inj, hx]
    refine fin0 h ?_ (mk_i .i64 (n : Int)) trivial hK
    rcases hcase with ⟨b, h1, h2, h3⟩ | ⟨ad, cap, h1, el, h3⟩
    · simp [execOp, ho, resolve, hb, invoke, builtin, Builtin.len_, hat, hx', run_underlying h3, h1, goInt, h2]
    · simp [execOp, ho, resolve, hb, invoke, builtin, Builtin.len_, hat, hx', run_underlying h3, h1, goInt]
  cases hl : cl.args.toList with
  | nil => rw [hl] at hK; simp [lenK] at hK
  | cons x ys =>
    rw [hl] at hK
    cases ys with
    | cons y zs => simp only [List.map_cons] at hK; unfold lenK at hK; split at hK <;> simp_all
    | nil =>
      simp only [List.map_cons, List.map_nil] at hK
      obtain ⟨hx, _⟩ := h.eval x
      generalize evalO c st x = s at hx hK
      unfold lenK at hK
      split at hK
      · rename_i l hs
        simp at hs; subst hs
        cases hS : I.isS with
        | false => simp [hS] at hK
        | true =>
          simp only [hS, cond_true] at hK
          obtain ⟨b, hb', rfl⟩ := rep_s hx
          exact go x hl _ (.inl ⟨b, hb', by show b.data.size = _; exact (Array.length_toList).symm, TI.isS_of hr hS⟩) hK
      · rename_i l hs
        simp at hs; subst hs
        cases hS : I.isL with
        | false => simp [hS] at hK
        | true =>
          simp only [hS, cond_true] at hK
          obtain ⟨ad, cap, hv, _⟩ := rep_list hx
          exact go x hl _ (.inr ⟨ad, cap, hv, _, (TI.isL_of hr hS).1⟩) hK
      · rename_i hs
        simp at hs; subst hs
        cases hS : I.isL with
        | false => simp [hS] at hK
        | true =>
          simp only [hS, cond_true] at hK
          simp only [SlotRep] at hx
          have hx : [a.eval x] = [Value.slice none 0 0] := hx
          simp at hx
          exact go x hl 0 (.inr ⟨none, 0, hx, _, (TI.isL_of hr hS).1⟩) hK
      · rename_i f hs
        simp at hs; subst hs
        cases hS : I.isL with
        | false => simp [hS] at hK
        | true =>
          simp only [hS, cond_true] at hK
          cases hf : oget st.fams f with
          | none => simp [hf] at hK
          | some w' =>
            simp only [hf] at hK
            obtain ⟨_, ad, cap, hv, _⟩ := own_val h hx hf
            exact go x hl _ (.inr ⟨ad, cap, hv, _, (TI.isL_of hr hS).1⟩) hK
      · simp at hK
end

end Dn
/-
  Values as leaves; places of elements; the least and the greatest; parts of slices. Conditions: none.
-/
set_option linter.unusedSimpArgs false
set_option linter.unusedVariables false
namespace Dn
open Go

section
variable {P : Program} {c : Ctx} {Z : Zone} {e : Env} {st : St} {a : Act} {w w' : World} {R : Type} {K : St → Option R} {r : R} {Q : Exit → Act → World → Prop} {o : Oper}

/-- a value as a leaf -/
structure OLeaf (e : Env) (k : Kd) (vs : List Value) (m : MV) (l : Leaf) : Prop where
  rep : Rep e.key e.φ vs m → LeafRep e vs l
  pur : pureL l = true
  mv : leavesMV [l] = some [m]
  one : ∀ m', l = .p m' → m'.one = true
  wid : l.w = layW [k]
theorem oLeaf_spec {k : Kd} {m : MV} {vs : List Value} {K' : Leaf → Option R} (hK : oLeaf k m K' = some r) : ∃ l, OLeaf e k vs m l ∧ K' l = some r := by
  have mk : ∀ m : MV, m.one = true → (layW [k] = 1) → K' (.p m) = some r → ∃ l, OLeaf e k vs m l ∧ K' l = some r :=
    fun m h1 h2 h3 => ⟨.p m, ⟨fun h => ⟨h1, h⟩, rfl, rfl, fun m' e => by cases e; exact h1, h2.symm⟩, h3⟩
  cases k with
  | b => unfold oLeaf gB at hK; cases m <;> simp at hK; exact mk _ rfl rfl hK
  | s => unfold oLeaf gS at hK; cases m <;> simp at hK; exact mk _ rfl rfl hK
  | l => unfold oLeaf gL at hK; cases m <;> simp at hK; exact mk _ rfl rfl hK
  | i k =>
    unfold oLeaf gI at hK; cases m <;> simp at hK
    rename_i k' n
    by_cases hk : k' = k
    · subst hk; simp at hK; exact mk _ rfl rfl hK
    · simp [hk] at hK
  | h =>
    unfold oLeaf gH at hK; cases m <;> simp at hK
    rename_i x
    refine ⟨.hs x, ⟨?_, rfl, rfl, by simp, rfl⟩, hK⟩
    intro h; cases h; rfl
  | raw => unfold oLeaf gR at hK; cases m <;> simp at hK <;> exact mk _ rfl rfl hK
theorem leavesMV_cons {l : Leaf} {ls : List Leaf} {m : MV} {ms : List MV} (h1 : leavesMV [l] = some [m]) (h2 : leavesMV ls = some ms) : leavesMV (l :: ls) = some (m :: ms) := by
  cases l <;> simp [leavesMV] at h1 ⊢ <;> simp [h2, h1]
structure OLeaves (e : Env) (ks : List Kd) (vs : List Value) (ms : List MV) (ls : List Leaf) : Prop where
  rep : RepL e.key e.φ vs ms → LeavesRep e vs ls
  pur : pureLsB ls = true
  mv : leavesMV ls = some ms
  one : ∀ m', Leaf.p m' ∈ ls → m'.one = true
  wid : sumW ls = layW ks
theorem layW_cons (k : Kd) (ks : List Kd) : layW (k :: ks) = layW [k] + layW ks := by cases k <;> simp [layW]
theorem oLeaves_spec {ks : List Kd} : ∀ {ms : List MV} {vs : List Value} {K' : List Leaf → Option R}, oLeaves ks ms K' = some r → ∃ ls, OLeaves e ks vs ms ls ∧ K' ls = some r := by
  induction ks with
  | nil =>
    intro ms vs K' hK
    cases ms with
    | nil => exact ⟨[], ⟨fun h => by cases h; rfl, rfl, rfl, by simp, rfl⟩, hK⟩
    | cons m ms => simp [oLeaves, gN] at hK
  | cons k ks ih =>
    intro ms vs K' hK
    cases ms with
    | nil => simp [oLeaves, gC] at hK
    | cons m ms =>
      simp only [oLeaves, gC] at hK
      have h1 := fun vs => oLeaf_spec (e := e) (vs := vs) hK
      obtain ⟨l, hl, hK1⟩ := h1 []
      obtain ⟨ls, hls, hK2⟩ := ih (vs := []) hK1
      refine ⟨l :: ls, ⟨?_, ?_, leavesMV_cons hl.mv hls.mv, ?_, ?_⟩, hK2⟩
      · intro h
        have g : LeavesRep e vs (l :: ls) := by
          apply h.leaves (leavesMV_cons hl.mv hls.mv)
          intro m' hm
          rcases List.mem_cons.1 hm with hm | hm
          · exact hl.one m' hm.symm
          · exact hls.one m' hm
        exact g
      · simp [pureLsB, hl.pur, hls.pur]
      · intro m' hm
        rcases List.mem_cons.1 hm with hm | hm
        · exact hl.one m' hm.symm
        · exact hls.one m' hm
      · rw [layW_cons, ← hl.wid, ← hls.wid]; rfl
theorem layW_of {t : TypeId} {I : TI} (hr : RowOK c.ti P t I) (hc : I.comps = []) : layW I.lay = I.size := by
  obtain ⟨d, i, h1, h2, h3, h4⟩ := hr
  cases d <;> simp only [RowD] at h4
  case struct fs => exact h4.2.2.1.2
  case tuple ts => exact absurd hc h4.2.1
  case slice el => obtain ⟨_, _, hs, _, _, _, _, k, hl, rfl⟩ := h4; rw [hl, hs]; rfl
  case array n el => obtain ⟨_, _, hs, _, _, _, hl, _⟩ := h4; rw [hl, hs]; rfl
  all_goals (obtain ⟨_, _, hs, hl, _⟩ := h4; rw [hl, hs]; rfl)
theorem openEl_spec {E : TI} {t : TypeId} {x : MV} {K' : List Leaf → Option R} (hr : RowOK c.ti P t E) (hc : E.comps = []) (hK : openEl E x K' = some r) :
    ∃ cs, ElLeaves E.st x cs ∧ pureLsB cs = true ∧ sumW cs = E.size ∧ K' cs = some r := by
  have hlw := layW_of hr hc
  unfold openEl at hK
  cases hst : E.st with
  | true =>
    simp only [hst, cond_true] at hK
    unfold gA at hK
    split at hK
    · rename_i ms
      obtain ⟨ls, hls, hK1⟩ := oLeaves_spec (e := ⟨fun n => n, fun _ _ => none, fun _ => undef, fun _ => 0, []⟩) (vs := []) hK
      exact ⟨ls, ⟨⟨ms, hls.mv, by simp [reEl]⟩, hls.one⟩, hls.pur, by rw [hls.wid, hlw], hK1⟩
    · simp at hK
  | false =>
    simp only [hst, cond_false] at hK
    split at hK
    · rename_i k hl
      obtain ⟨l, hl2, hK1⟩ := oLeaf_spec (e := ⟨fun n => n, fun _ _ => none, fun _ => undef, fun _ => 0, []⟩) (vs := []) hK
      refine ⟨[l], ⟨⟨[x], hl2.mv, by simp [reEl]⟩, ?_⟩, by simp [pureLsB, hl2.pur], ?_, hK1⟩
      · intro m hm; simp at hm; exact hl2.one m hm.symm
      · rw [← hlw, hl, ← hl2.wid]; rfl
    · simp at hK

theorem op_ixA {t : TypeId} {x y : Operand} {I E : TI} (ho : o.op = .indexAddr t x y) (hI : c.tv t = some I) (hE : c.tv I.elem = some E) (hT : TIok P c.ti) (h : Sim c Z e st a w)
    (hK : ixAK c st I E (evalO c st x) (evalO c st y) (fun s => setDst c st o.dst s K) = some r) : Rd P c Z K r e a w o (fun _ => True) := by
  obtain ⟨hx, hrt⟩ := h.eval x
  obtain ⟨hy, _⟩ := h.eval y
  obtain ⟨hti, hc⟩ := tv_some hI
  obtain ⟨hEi, hEc⟩ := tv_some hE
  have hr := hT t I hti
  have hrE := hT _ E hEi
  obtain ⟨iE, hiE, hsE, _⟩ := hrE.info hEc
  have run : ∀ k n blk off len cap, P.underlying t = some (.slice I.elem) → a.eval y = .int k n → a.eval x = .slice (some ⟨blk, off, none⟩) len cap → 0 ≤ n → n.toNat < len →
      ∀ w : World, (execOp a.eval o).run P w = .ok (.value (.pointer (some ⟨blk, off + n.toNat * E.size, none⟩))) w := by
    intro k n blk off len cap hu hy hx h0 h1 w
    have h2 : n < (len : Int) := by omega
    simp [execOp, ho, hx, hy, Instr.indexAt, asIntOf, run_underlying hu, h0, h2, Go.sizeOf, typeInfo, hiE, hsE, Addr.add_mid]
  generalize evalO c st x = sx at hx hK hrt
  generalize evalO c st y = sy at hy hK
  unfold ixAK at hK
  split at hK
  · rename_i xs k n
    cases hL : I.isL with
    | false => simp [hL] at hK
    | true =>
      simp only [hL, cond_true] at hK
      obtain ⟨h0, m, hm, hK⟩ := idx_some hK
      obtain ⟨cs, h1, h2, h3, hK⟩ := openEl_spec hrE hEc hK
      have hlt : n.toNat < xs.length := (List.getElem?_eq_some_iff.1 hm).1
      simp only [SlotRep, LeafRep] at hx
      obtain ⟨_, hx⟩ := hx
      generalize hv : [a.eval x] = vs at hx
      cases hx with
      | list ad cap _ blk off esz f g1 g2 g3 g4 g5 =>
      simp at hv
      have hrep := g5 n.toNat hlt
      rw [(List.getElem?_eq_some_iff.1 hm).2] at hrep
      have hlv := hrep.elLeaves h1
      have hes : esz = E.size := by rw [← h3, ← hlv.width, g3 _ hlt]
      rw [g2 (by omega)] at hv
      refine fin0 (s := .rp cs 0) h (run k n blk off _ cap (TI.isL_of hr hL).1 (rep_i hy) hv h0 hlt) ?_ trivial hK
      simp only [SlotRep]
      refine ⟨blk, off + n.toNat * E.size, f n.toNat, rfl, hlv, h2, ?_⟩
      intro j hj
      rw [g3 _ hlt] at hj
      rw [← hes]; exact g4 n.toNat j hlt hj
  · rename_i f k n
    cases hf : oget st.fams f with
    | none => simp [hf] at hK
    | some fo =>
      simp only [hf] at hK
      cases hL : I.isL with
      | false => simp [hL] at hK
      | true =>
        simp only [hL, cond_true] at hK
        obtain ⟨h0, m, hm, hK⟩ := idx_some hK
        obtain ⟨cs, h1, h2, h3, hK⟩ := openEl_spec hrE hEc hK
        have hlt : n.toNat < fo.xs.length := (List.getElem?_eq_some_iff.1 hm).1
        obtain ⟨hv, _⟩ := own_val h hx hf
        obtain ⟨J, cells, _, _, hown, _⟩ := (h.fam f fo hf).row
        rcases hown.2 with ⟨h5, h6⟩ | ⟨g, cap, cur, h5, _⟩
        · omega
        · rw [h5] at hv
          refine fin0 (s := .ep f n.toNat 0 E.st cs) h (run k n g 0 _ cap (TI.isL_of hr hL).1 (rep_i hy) hv h0 hlt) ?_ trivial hK
          simp only [SlotRep]
          intro o2 ho2
          rw [h.m, hf] at ho2
          cases ho2
          exact ⟨g, cap, h5, ⟨m, hm, h1⟩, by rw [h3, Nat.zero_add, Nat.add_zero]⟩
  · rename_i r' o' k n
    cases hst : I.st with
    | true => simp [hst] at hK
    | false =>
      simp only [hst, cond_false] at hK
      split at hK
      · rename_i hl
        obtain ⟨hc1, hK⟩ := chk_some hK
        obtain ⟨h0, h1⟩ := of_decide_eq_true hc1
        obtain ⟨d, i, hu, h2, h3, h4⟩ := hr
        cases d <;> simp only [RowD, hl, hst] at h4 <;> first | (exfalso; simp_all; done) | skip
        obtain ⟨_, _, _, rfl, _, ⟨ie, hue, hie, hs1⟩, _⟩ := h4
        simp only [SlotRep] at hx
        refine fin0 (s := .hp r' o' n.toNat) (v := .pointer (some ⟨e.B r', o' + n.toNat, none⟩)) h ?_ ?_ hrt hK
        · simp [execOp, ho, hx, rep_i hy, Instr.indexAt, asIntOf, run_underlying hu, h0, h1, Go.sizeOf, typeInfo, hie, hs1, Instr.sureAddr, Addr.add_mid]
        · simp only [SlotRep]; exact ⟨trivial, by omega⟩
      · simp at hK
  · simp at hK

theorem minL_spec {mx : Bool} {k : IntKind} {ss : List Slot} : ∀ {vs : List Value} {n : Int} {m : MV}, minL mx k n ss = some m → vs.length = ss.length →
    (∀ (i : Nat) (v : Value) (s : Slot), vs[i]? = some v → ss[i]? = some s → SlotRep e v s) →
    ∃ v, (∀ w : World, (vs.foldlM (if mx then Builtin.max2 else Builtin.min2) (.int k n)).run P w = .ok v w) ∧ SlotRep e v (.sc (.p m)) := by
  induction ss with
  | nil =>
    intro vs n m hm hl hs
    have := List.eq_nil_of_length_eq_zero hl
    subst this
    simp [minL] at hm
    subst hm
    exact ⟨.int k n, by simp, mk_i k n⟩
  | cons s ss ih =>
    intro vs n m hm hl hs
    cases vs with
    | nil => simp at hl
    | cons v vs =>
      have h0 := hs 0 v s rfl rfl
      unfold minL at hm
      split at hm
      · rename_i heq; simp at heq
      · rename_i k' y r' heq
        simp at heq
        obtain ⟨rfl, rfl⟩ := heq
        by_cases hk : k' = k
        · subst hk
          simp only [decide_true, cond_true] at hm
          obtain ⟨u, h1, h2⟩ := ih hm (by simpa using hl) (fun i v s h1 h2 => hs (i + 1) v s (by simpa using h1) (by simpa using h2))
          refine ⟨u, fun w => ?_, h2⟩
          have h1 := h1 w
          rw [rep_i h0]
          cases mx
          · simp only [cond_false, imin] at h1
            simp [Builtin.min2] at h1 ⊢
            exact h1
          · simp only [cond_true, imax] at h1
            simp [Builtin.max2] at h1 ⊢
            exact h1
        · simp [hk] at hm
      · simp at hm
theorem op_minmax {cl : Call} {mx : Bool} {m : MV} (ho : o.op = .call cl) (hb : cl.callee = .builtin (if mx then .max else .min)) (h : Sim c Z e st a w)
    (hm : minK mx (evals c st cl.args.toList) = some m) (hK : setDst c st o.dst (.sc (.p m)) K = some r) : Rd P c Z K r e a w o (fun _ => True) := by
  rw [evals_spec] at hm
  cases hl : cl.args.toList with
  | nil => rw [hl] at hm; simp [minK] at hm
  | cons x xs =>
    rw [hl] at hm
    simp only [List.map_cons] at hm
    obtain ⟨hx, _⟩ := h.eval x
    generalize evalO c st x = s at hx hm
    unfold minK at hm
    split at hm
    · rename_i k n ss heq
      simp at heq
      obtain ⟨rfl, rfl⟩ := heq
      obtain ⟨v, h1, h2⟩ := minL_spec (e := e) (P := P) (vs := xs.map a.eval) hm (by simp) (by
        intro i v s h1 h2
        simp only [List.getElem?_map, Option.map_eq_some_iff] at h1 h2
        obtain ⟨y, h3, rfl⟩ := h1
        obtain ⟨y', h4, rfl⟩ := h2
        rw [h3] at h4; cases h4
        exact (h.eval y).1)
      have hargs : (cl.args.map a.eval).toList = .int k n :: xs.map a.eval := by simp [hl, rep_i hx]
      refine fin0 (v := v) h ?_ h2 trivial hK
      intro w
      have h1 := h1 w
      cases mx
      · simp at hb h1
        have hmin : ∀ ts t, (Builtin.min_ ts t (cl.args.map a.eval)).run P w = .ok v w := by intro ts t; unfold Builtin.min_; rw [hargs]; exact h1
        simp [execOp, ho, resolve, hb, invoke, builtin, hmin]
      · simp at hb h1
        have hmin : ∀ ts t, (Builtin.max_ ts t (cl.args.map a.eval)).run P w = .ok v w := by intro ts t; unfold Builtin.max_; rw [hargs]; exact h1
        simp [execOp, ho, resolve, hb, invoke, builtin, hmin]
    · simp at hm
end

end Dn
/-
  Parts of slices and texts. Conditions: none.
-/
set_option linter.unusedSimpArgs false
set_option linter.unusedVariables false
namespace Dn
open Go

section
variable {P : Program} {c : Ctx} {Z : Zone} {e : Env} {st : St} {a : Act} {w w' : World} {R : Type} {K : St → Option R} {r : R} {Q : Exit → Act → World → Prop} {o : Oper}

theorem sliceB_run {b : Bool} {lo hi : Option Operand} {len cap : Nat} {K' : Nat → Nat → Option R} (h : Sim c Z e st a w) (hcap : len ≤ cap) (hK : sliceB (optEval c st lo) (optEval c st hi) len K' = some r) :
    ∃ l h', l ≤ h' ∧ h' ≤ len ∧ (lo = none → l = 0) ∧ (∀ w : World, (Instr.sliceBounds b len cap (lo.map a.eval) (hi.map a.eval) none).run P w = .ok (l, h', cap) w) ∧ K' l h' = some r := by
  have bnd : ∀ (k : IntKind) (n : Int) (y : Nat) (cd : BoundsCode), 0 ≤ n → n ≤ (y : Int) → ∀ w : World, (Instr.sliceBound (.int k n) y cd).run P w = .ok n.toNat w := by
    intro k n y cd h1 h2 w
    simp [Instr.sliceBound, asIntOf, h1, h2]
  unfold sliceB at hK
  cases lo with
  | none =>
    cases hi with
    | none =>
      simp only [optEval] at hK
      exact ⟨0, len, by omega, by omega, fun _ => rfl, by simp [Instr.sliceBounds], hK⟩
    | some y =>
      obtain ⟨hy, _⟩ := h.eval y
      simp only [optEval] at hK
      generalize evalO c st y = sy at hy hK
      split at hK <;> first | (simp_all; done) | skip
      · rename_i k n h1 h2
        simp at h2; subst h2
        obtain ⟨hc1, hK⟩ := chk_some hK
        obtain ⟨h3, h4, h5⟩ := of_decide_eq_true hc1
        refine ⟨0, n.toNat, by omega, by omega, fun _ => rfl, ?_, hK⟩
        have := bnd k n cap (if b then .sliceAcap else .sliceAlen) h4 (by omega)
        cases b <;> simp at this <;> simp [Instr.sliceBounds, rep_i hy, this]
  | some x =>
    obtain ⟨hx, _⟩ := h.eval x
    cases hi with
    | none =>
      simp only [optEval] at hK
      generalize evalO c st x = sx at hx hK
      split at hK <;> first | (simp_all; done) | skip
      · rename_i k n h1 h2
        simp at h1; subst h1
        obtain ⟨hc1, hK⟩ := chk_some hK
        obtain ⟨h3, h4, h5⟩ := of_decide_eq_true hc1
        refine ⟨n.toNat, len, by omega, by omega, by simp, ?_, by simpa using hK⟩
        have := bnd k n len .sliceB h3 h4
        simp [Instr.sliceBounds, rep_i hx, this]
    | some y =>
      obtain ⟨hy, _⟩ := h.eval y
      simp only [optEval] at hK
      generalize evalO c st x = sx at hx hK
      generalize evalO c st y = sy at hy hK
      split at hK <;> first | (simp_all; done) | skip
      · rename_i k n k' n' h1 h2
        simp at h1 h2; subst h1; subst h2
        obtain ⟨hc1, hK⟩ := chk_some hK
        obtain ⟨h3, h4, h5⟩ := of_decide_eq_true hc1
        refine ⟨n.toNat, n'.toNat, by omega, by omega, by simp, ?_, hK⟩
        have t1 := bnd k' n' cap (if b then .sliceAcap else .sliceAlen) (by omega) (by omega)
        have t2 := bnd k n n'.toNat .sliceB h3 (by omega)
        cases b <;> simp at t1 <;> simp [Instr.sliceBounds, rep_i hx, rep_i hy, t1, t2]

/-- a part of a list -/
theorem Rep.sub {key : Nat → Nat} {φ : Ph} {ad : Option Addr} {len cap : Nat} {xs : List MV} {l h' size : Nat} (hv : Rep key φ [.slice ad len cap] (.list xs)) (hl : l ≤ h') (hh : h' ≤ xs.length)
    (hw : l ≠ 0 → ∀ x ∈ xs, x.w = size) : len = xs.length ∧ len ≤ cap ∧ Rep key φ [.slice (if cap = l then ad else ad.map (·.add (l * size))) (h' - l) (cap - l)] (.list ((xs.take h').drop l)) := by
  generalize hvs : [Value.slice ad len cap] = vs at hv
  cases hv with
  | list ad' cap' _ blk off esz f g1 g2 g3 g4 g5 =>
  simp at hvs
  obtain ⟨rfl, rfl, rfl⟩ := hvs
  refine ⟨rfl, g1, ?_⟩
  have hlen : ((xs.take h').drop l).length = h' - l := by simp; omega
  have key2 : Rep key φ [.slice (if cap = l then ad else ad.map (·.add (l * size))) ((xs.take h').drop l).length (cap - l)] (.list ((xs.take h').drop l)) := by
    have hget : ∀ i, i < ((xs.take h').drop l).length → i + l < xs.length := by intro i hi; omega
    have hel : ∀ (i : Nat) (hi : i < ((xs.take h').drop l).length), ((xs.take h').drop l)[i] = xs[i + l]'(hget i hi) := by
      intro i hi
      simp [Nat.add_comm]
    refine .list _ _ _ blk (off + l * esz) esz (fun i => f (i + l)) (by rw [hlen]; omega) ?_ ?_ ?_ ?_
    · intro h0
      have hne : cap ≠ l := by omega
      have hx0 : 0 < xs.length := by omega
      rw [g2 hx0]
      simp only [hne, if_false, Option.map_some, Option.some.injEq]
      by_cases hl0 : l = 0
      · subst hl0; simp [Addr.add_mid]
      · have hes : esz = size := by
          have h3 := g5 0 hx0
          rw [← g3 0 hx0, h3.width]
          exact hw hl0 _ (List.getElem_mem hx0)
        rw [hes, Addr.add_mid]
    · intro i hi; exact g3 _ (hget i hi)
    · intro i j hi hj
      have := g4 (i + l) j (hget i hi) hj
      rw [← this]
      congr 1
      rw [Nat.add_mul]; omega
    · intro i hi
      rw [hel i hi]
      exact g5 (i + l) (hget i hi)
  rw [hlen] at key2
  exact key2

theorem wids_mem {n : Nat} {l : List MV} (h : wids n l = true) : ∀ x ∈ l, x.w = n := by
  intro x hx
  unfold wids at h
  rw [List.all_eq_true] at h
  exact Nat.eq_of_beq_eq_true (h x hx)
theorem ElemsRep.wids {key : Nat → Nat} {φ : Ph} {size : Nat} {xs : List MV} : ∀ {cs : List Value}, ElemsRep key φ size cs xs → ∀ x ∈ xs, x.w = size := by
  induction xs with
  | nil => intro cs _ x hx; simp at hx
  | cons y ys ih =>
    intro cs h x hx
    obtain ⟨v, q, rfl, h1, h2, h3⟩ := h
    rcases List.mem_cons.1 hx with rfl | hx
    · rw [← h2.width, h1]
    · exact ih h3 x hx

theorem op_slice {t : TypeId} {x : Operand} {lo hi : Option Operand} {I : TI} (ho : o.op = .slice t x lo hi none) (hI : c.tv t = some I) (hT : TIok P c.ti) (h : Sim c Z e st a w)
    (hK : sliceK c I st (evalO c st x) (optEval c st lo) (optEval c st hi) (fun s st => setDst c st o.dst s K) = some r) : Rd P c Z K r e a w o (fun _ => True) := by
  obtain ⟨hx, hrt⟩ := h.eval x
  obtain ⟨hti, hc⟩ := tv_some hI
  have hr := hT t I hti
  have run : ∀ {el E}, P.underlying t = some (.slice el) → c.ti el = some E → E.comps = [] → ∀ ad len cap l h', a.eval x = .slice ad len cap → (∀ w : World, (Instr.sliceBounds true len cap (lo.map a.eval) (hi.map a.eval) none).run P w = .ok (l, h', cap) w) →
      ∀ w : World, (execOp a.eval o).run P w = .ok (.value (.slice (if cap = l then ad else ad.map (·.add (l * E.size))) (h' - l) (cap - l))) w := by
    intro el E hu hE hEc ad len cap l h' hv hb w
    obtain ⟨iE, hiE, hsE, _⟩ := (hT _ E hE).info hEc
    simp [execOp, ho, Instr.sliceAt, Instr.slice, run_underlying hu, hv, hb, Go.sizeOf, typeInfo, hiE, hsE]
  generalize hs : evalO c st x = s at hx hK hrt
  unfold sliceK at hK
  split at hK
  · rename_i bs
    cases hS : I.isS with
    | false => simp [hS] at hK
    | true =>
      simp only [hS, cond_true] at hK
      have hu := TI.isS_of hr hS
      obtain ⟨b, hb, rfl⟩ := rep_s hx
      have hsz : b.data.toList.length = b.size := by rw [Array.length_toList]; rfl
      rw [hsz] at hK
      obtain ⟨l, h', h1, h2, _, h3, hK⟩ := sliceB_run (P := P) (b := false) (cap := b.size) h (Nat.le_refl _) hK
      refine fin0 (s := .sc (.p (.s ((b.data.toList.take h').drop l)))) (v := .string (b.extract l h')) h ?_ ?_ trivial hK
      · simp [execOp, ho, Instr.sliceAt, Instr.slice, run_underlying hu, hb, h3]
      · have := mk_s (e := e) (b.extract l h')
        have h5 : (b.extract l h').data.toList = (b.data.toList.take h').drop l := by
          rw [ByteArray.data_extract, Array.toList_extract, List.extract_eq_take_drop, List.drop_take]
        rwa [h5] at this
  · rename_i xs
    cases hS : I.isL with
    | false => simp [hS] at hK
    | true =>
      simp only [hS, cond_true] at hK
      obtain ⟨hu, _⟩ := TI.isL_of hr hS
      cases hE : c.tv I.elem with
      | none => simp [hE] at hK
      | some E =>
        simp only [hE] at hK
        obtain ⟨hEi, hEc⟩ := tv_some hE
        have hK2 : (lo ≠ none → wids E.size xs = true) ∧ sliceB (optEval c st lo) (optEval c st hi) xs.length (fun l h' => setDst c st o.dst (.sc (.p (.list ((xs.take h').drop l)))) K) = some r := by
          cases lo with
          | none => exact ⟨by simp, hK⟩
          | some y => simp only [optEval] at hK ⊢; obtain ⟨h1, h2⟩ := chk_some hK; exact ⟨fun _ => h1, h2⟩
        obtain ⟨hw, hK⟩ := hK2
        obtain ⟨ad, cap, hv, hcap⟩ := rep_list hx
        obtain ⟨l, h', h1, h2, h0, h3, hK⟩ := sliceB_run (P := P) (b := true) (cap := cap) h hcap hK
        simp only [SlotRep, LeafRep] at hx
        rw [hv] at hx
        obtain ⟨_, _, hrep⟩ := Rep.sub (size := E.size) hx.2 h1 h2 (fun hl => wids_mem (hw (fun hn => hl (h0 hn))))
        refine fin0 (s := .sc (.p (.list ((xs.take h').drop l)))) h (run hu hEi hEc ad _ cap l h' hv h3) ?_ trivial hK
        simp only [SlotRep, LeafRep]
        exact ⟨rfl, hrep⟩
  · rename_i f
    cases hf : oget st.fams f with
    | none => simp [hf] at hK
    | some fo =>
      simp only [hf] at hK
      cases hS : I.isL && Nat.beq fo.ty I.elem with
      | false => simp [hS] at hK
      | true =>
        simp only [hS, cond_true] at hK
        simp only [Bool.and_eq_true] at hS
        obtain ⟨hu, E, hEi, hEc, _⟩ := TI.isL_of hr hS.1
        have hty := Nat.eq_of_beq_eq_true hS.2
        obtain ⟨hvE, ad, cap, hv, hcap⟩ := own_val h hx hf
        simp only [SlotRep] at hx
        obtain ⟨J, cells, hJ, _, _, hels, _⟩ := (h.fam f fo hf).row
        rw [hty, hEi] at hJ
        cases hJ
        have hwx := hels.wids
        obtain ⟨e', st', m, hs', hext, hfr, hrep, hK, _, hm⟩ := shLeaf_spec h hx hK
        obtain ⟨o2, ho2, rfl⟩ := hm.1 f rfl
        rw [hf] at ho2
        cases ho2
        obtain ⟨l, h', h1, h2, h0, h3, hK⟩ := sliceB_run (P := P) (b := true) (cap := cap) h hcap hK
        rw [hv] at hrep
        obtain ⟨_, _, hrep⟩ := Rep.sub (size := E.size) hrep h1 h2 (fun _ => hwx)
        refine finR (s := .sc (.p (.list ((fo.xs.take h').drop l)))) (fun w _ => run hu hEi hEc ad _ cap l h' hv h3 w) hs' hext.tr (.of ?_ trivial) hK
        simp only [SlotRep, LeafRep]
        exact ⟨rfl, hrep⟩
  · cases hS : I.isL with
    | false => simp [hS] at hK
    | true =>
      simp only [hS, cond_true] at hK
      obtain ⟨hu, E, hEi, hEc, _⟩ := TI.isL_of hr hS
      simp only [SlotRep] at hx
      have hx : [a.eval x] = [Value.slice none 0 0] := hx
      simp at hx
      obtain ⟨l, h', h1, h2, _, h3, hK⟩ := sliceB_run (P := P) (b := true) (cap := 0) h (Nat.le_refl _) hK
      have h4 : h' = 0 := by omega
      have h5 : l = 0 := by omega
      subst h4; subst h5
      refine fin0 (s := .sc .nil) h (run hu hEi hEc none 0 0 0 0 hx h3) ?_ trivial hK
      simp only [SlotRep, if_true]
      rfl
  · simp at hK
/-- a slice whose room is cut to its length -/
theorem op_clip {t : TypeId} {x y z : Operand} {I : TI} (ho : o.op = .slice t x none (some y) (some z)) (hI : c.tv t = some I) (hT : TIok P c.ti) (h : Sim c Z e st a w)
    (hK : clipK I (evalO c st x) (evalO c st y) (evalO c st z) (fun s => setDst c st o.dst s K) = some r) : Rd P c Z K r e a w o (fun _ => True) := by
  obtain ⟨hx, hrt⟩ := h.eval x
  obtain ⟨hy, _⟩ := h.eval y
  obtain ⟨hz, _⟩ := h.eval z
  obtain ⟨hti, hc⟩ := tv_some hI
  have hr := hT t I hti
  generalize evalO c st x = s at hx hK hrt
  generalize evalO c st y = s2 at hy hK
  generalize evalO c st z = s3 at hz hK
  unfold clipK at hK
  split at hK
  · rename_i l n n'
    cases hS : I.isL with
    | false => simp [hS] at hK
    | true =>
      simp only [hS, cond_true] at hK
      obtain ⟨hc1, hK2⟩ := chk_some hK
      obtain ⟨rfl, rfl⟩ := of_decide_eq_true hc1
      obtain ⟨hu, E, hEi, hEc, _⟩ := TI.isL_of hr hS
      obtain ⟨iE, hiE, hsE, _⟩ := (hT _ E hEi).info hEc
      obtain ⟨ad, cap, hv, hcap⟩ := rep_list hx
      simp only [SlotRep, LeafRep] at hx
      rw [hv] at hx
      have bnd : ∀ (m : Nat) (cd : BoundsCode), l.length ≤ m → ∀ w : World, (Instr.sliceBound (.int .i64 (l.length : Int)) m cd).run P w = .ok l.length w := by
        intro m cd hm w
        have : (l.length : Int) ≤ (m : Int) := by omega
        simp [Instr.sliceBound, asIntOf, this]
      have hb : ∀ w : World, (Instr.sliceBounds true l.length cap none (some (.int .i64 (l.length : Int))) (some (.int .i64 (l.length : Int)))).run P w = .ok (0, l.length, l.length) w := by
        intro w
        have b1 := bnd cap .slice3Acap hcap
        have b2 := bnd l.length .slice3B (Nat.le_refl _)
        simp [Instr.sliceBounds, b1, b2]
      have hrep : Rep e.key e.φ [.slice ad l.length l.length] (.list l) := by
        have h2 := hx.2
        generalize hvs : [Value.slice ad l.length cap] = vs at h2
        cases h2 with
        | list ad' cap' _ blk off esz f g1 g2 g3 g4 g5 =>
        simp at hvs
        obtain ⟨rfl, _⟩ := hvs
        exact .list _ _ _ blk off esz f (Nat.le_refl _) g2 g3 g4 g5
      refine fin0 (s := .sc (.p (.clip l))) (v := .slice ad l.length l.length) h (fun w => ?_) ?_ trivial hK2
      · simp [execOp, ho, Instr.sliceAt, Instr.slice, run_underlying hu, hv, rep_i hy, rep_i hz, hb, Go.sizeOf, typeInfo, hiE, hsE]
        intro hne
        cases ad with
        | none => rfl
        | some b => simp [Addr.add]
      · simp only [SlotRep, LeafRep]
        exact ⟨rfl, .clip _ _ hrep⟩
  · simp at hK
end

end Dn
