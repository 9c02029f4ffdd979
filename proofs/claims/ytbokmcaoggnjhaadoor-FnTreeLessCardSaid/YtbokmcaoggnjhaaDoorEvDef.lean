/- An abstract big-step evaluator for the model's code: plain definitions, no proof yet. Conditions: none. -/
import GoSem.Step
namespace Ev
open Go

abbrev Str := List UInt8

inductive Sc where
  | int (k : IntKind) | bool | str | ints (k : IntKind)
deriving DecidableEq

@[reducible] def Sc.T : Sc → Type
  | .int _ => Int
  | .bool => Bool
  | .str => Str
  | .ints _ => List Int

def Sc.dflt : (s : Sc) → s.T
  | .int _ => (0 : Int)
  | .bool => false
  | .str => ([] : List UInt8)
  | .ints _ => ([] : List Int)

abbrev FT := List Sc

@[reducible] def El : FT → Type
  | [] => Unit
  | s :: r => match r with
    | [] => s.T
    | _ :: _ => s.T × El r

def El.dflt : (t : FT) → El t
  | [] => ()
  | [s] => s.dflt
  | s :: s' :: r => (s.dflt, El.dflt (s' :: r))

/-- Values: scalars, read-only slices by content, references to own objects by number. -/
inductive AV where
  | undef
  | int (k : IntKind) (n : Int)
  | bool (b : Bool)
  | str (s : Str)
  | ro (t : FT) (xs : List (El t))
  | roe (t : FT) (x : El t) (f : Nat)
  | nilsl
  | nilp
  | ptr (id off : Nat)
  | full (id : Nat)
  | psl (id sz off len : Nat)
  | elp (id sz j f : Nat)
  | map (id : Nat)
  | fn (f : Nat) (first cap : List AV)
  | agg (cs : List AV)
  | tup (vs : List AV)
  | gptr (g off : Nat)

inductive Ob where
  | dead
  | box (cs : List AV)
  | arr (t : FT) (xs : List (El t))
  | map (kt vt : FT) (es : List (El kt × El vt))

abbrev Heap := List Ob

def getA : List AV → Nat → AV
  | [], _ => .undef
  | a :: _, 0 => a
  | _ :: l, n + 1 => getA l n

def setA : List AV → Nat → AV → List AV
  | [], _, _ => []
  | _ :: l, 0, v => v :: l
  | a :: l, n + 1, v => a :: setA l n v

def getH : Heap → Nat → Ob
  | [], _ => .dead
  | a :: _, 0 => a
  | _ :: l, n + 1 => getH l n

def setH : Heap → Nat → Ob → Heap
  | [], 0, o => [o]
  | [], n + 1, o => .dead :: setH [] n o
  | _ :: l, 0, o => o :: l
  | a :: l, n + 1, o => a :: setH l n o

abbrev Delta := List (Nat × Ob)

def apD : Heap → Delta → Heap
  | h, [] => h
  | h, (i, o) :: d => apD (setH h i o) d

/-! Lists of the evaluation's own (not of data). -/
def lenL {α : Type} : List α → Nat
  | [] => 0
  | _ :: l => lenL l + 1
def catL {α : Type} : List α → List α → List α
  | [], m => m
  | a :: l, m => a :: catL l m
def mapL {α β : Type} (f : α → β) : List α → List β
  | [] => []
  | a :: l => f a :: mapL f l
def revL {α : Type} : List α → List α → List α
  | [], m => m
  | a :: l, m => revL l (a :: m)
def mapO {α β : Type} (f : α → β) : Option α → Option β
  | none => none
  | some a => some (f a)
def anyL {α : Type} (f : α → Bool) : List α → Bool
  | [] => false
  | a :: l => cond (f a) true (anyL f l)

/-- A condition that the evaluation needs. -/
def need {α : Type} (b : Bool) (x : Option α) : Option α := cond b x none

/-! ### cells of elements -/

def Sc.av : (s : Sc) → s.T → AV
  | .int k, n => .int k n
  | .bool, b => .bool b
  | .str, s => .str s
  | .ints k, xs => .ro [.int k] xs

def El.cells : (t : FT) → El t → List AV
  | [], _ => []
  | [s], x => [s.av x]
  | s :: s' :: r, x => s.av x.1 :: El.cells (s' :: r) x.2

def Sc.of : (s : Sc) → AV → Option s.T
  | .int k, .int k' n => if k = k' then some n else none
  | .bool, .bool b => some b
  | .str, .str s => some s
  | .ints k, .ro [.int k'] xs => if k = k' then some xs else none
  | .ints _, .nilsl => some ([] : List Int)
  | _, _ => none

def El.of : (t : FT) → List AV → Option (El t)
  | [], [] => some ()
  | [s], [a] => s.of a
  | s :: s' :: r, a :: l => match s.of a, El.of (s' :: r) l with
    | some x, some y => some (x, y)
    | _, _ => none
  | _, _ => none

def dropA {α : Type} : Nat → List α → List α
  | 0, l => l
  | _ + 1, [] => []
  | n + 1, _ :: l => dropA n l

def takeA {α : Type} : Nat → List α → List α
  | 0, _ => []
  | _ + 1, [] => []
  | n + 1, a :: l => a :: takeA n l

/-- `cs` with the cells `vs` from place `n` on. -/
def putCells : List AV → Nat → List AV → List AV
  | cs, _, [] => cs
  | cs, n, v :: vs => putCells (setA cs n v) (n + 1) vs

def El.ofs (t : FT) (sz : Nat) : Nat → List AV → Option (List (El t))
  | 0, _ => some []
  | n + 1, l => match El.of t (takeA sz l), El.ofs t sz n (dropA sz l) with
    | some x, some xs => some (x :: xs)
    | _, _ => none

def cellsA : AV → Option (List AV)
  | .agg cs => some cs
  | .undef => none
  | .tup _ => none
  | v => some [v]

/-! ### types -/

inductive TD where
  | int (k : IntKind) | bool | str | ptr (e : Nat) | slice (e : Nat) | struct (fs : List (Nat × Nat × Bool)) | map (k v : Nat) | other

structure TI where
  d : TD
  size : Nat
  bytes : Nat
  zero : List AV
  ft : Option FT

inductive Ex where
  | normal | exit (id : Nat) | ret

structure St where
  fr : List AV
  hp : Heap

/-! ### data, shapes -/

inductive DT where
  | int (k : IntKind) | bool | str | list (t : FT) | map (kt vt : FT)
deriving DecidableEq

@[reducible] def DT.T : DT → Type
  | .int _ => Int
  | .bool => Bool
  | .str => Str
  | .list t => List (El t)
  | .map kt vt => List (El kt × El vt)

@[reducible] def Den : List DT → Type
  | [] => Unit
  | d :: r => match r with
    | [] => d.T
    | _ :: _ => d.T × Den r

structure Dat where
  d : DT
  v : d.T

def Den.list : (ds : List DT) → Den ds → List Dat
  | [], _ => []
  | [d], x => [⟨d, x⟩]
  | d :: d' :: r, x => ⟨d, x.1⟩ :: Den.list (d' :: r) x.2

def Dat.as (d : DT) (x : Dat) : Option d.T := if h : x.d = d then some (h ▸ x.v) else none

def Den.of : (ds : List DT) → List Dat → Option (Den ds)
  | [], [] => some ()
  | [d], [x] => x.as d
  | d :: d' :: r, x :: l => match x.as d, Den.of (d' :: r) l with
    | some a, some b => some (a, b)
    | _, _ => none
  | _, _ => none

inductive Tp where
  | undef
  | sc (d : DT)            -- an int, a bool, a string, a read-only slice: data
  | full (j : Nat) | ptr (j off : Nat) | map (j : Nat)
  | nilp | cint (k : IntKind) (n : Int) | cstr (s : Str)
  | gptr (g off : Nat)
  | fn (f : Nat) (first cap : List Tp)
  | agg (l : List Tp) | tup (l : List Tp)

inductive OT where
  | dead
  | box (l : List Tp)
  | arr (t : FT)
  | map (kt vt : FT)

structure Sh where
  ds : List DT
  fr : List (Nat × Tp)
  hp : List OT

def Dat.av : Dat → AV
  | ⟨.int k, n⟩ => .int k n
  | ⟨.bool, b⟩ => .bool b
  | ⟨.str, s⟩ => .str s
  | ⟨.list t, xs⟩ => .ro t xs
  | ⟨.map _ _, _⟩ => .undef

mutual
def Tp.inst (ρ : Nat → Nat) : Tp → List Dat → AV × List Dat
  | .undef, l => (.undef, l)
  | .sc _, [] => (.undef, [])
  | .sc _, x :: l => (x.av, l)
  | .full j, l => (.full (ρ j), l)
  | .ptr j o, l => (.ptr (ρ j) o, l)
  | .map j, l => (.map (ρ j), l)
  | .nilp, l => (.nilp, l)
  | .cint k n, l => (.int k n, l)
  | .cstr s, l => (.str s, l)
  | .gptr g o, l => (.gptr g o, l)
  | .fn f a b, l => let (x, l) := Tp.insts ρ a l; let (y, l) := Tp.insts ρ b l; (.fn f x y, l)
  | .agg a, l => let (x, l) := Tp.insts ρ a l; (.agg x, l)
  | .tup a, l => let (x, l) := Tp.insts ρ a l; (.tup x, l)
def Tp.insts (ρ : Nat → Nat) : List Tp → List Dat → List AV × List Dat
  | [], l => ([], l)
  | t :: ts, l => let (x, l) := Tp.inst ρ t l; let (xs, l) := Tp.insts ρ ts l; (x :: xs, l)
end

def OT.inst (ρ : Nat → Nat) : OT → List Dat → Ob × List Dat
  | .dead, l => (.dead, l)
  | .box a, l => let (x, l) := Tp.insts ρ a l; (.box x, l)
  | .arr _, ⟨.list t, xs⟩ :: l => (.arr t xs, l)
  | .arr _, l => (.dead, l)
  | .map _ _, ⟨.map k v, xs⟩ :: l => (.map k v xs, l)
  | .map _ _, l => (.dead, l)

def OT.insts (ρ : Nat → Nat) : List OT → List Dat → Heap
  | [], _ => []
  | t :: ts, l => let (x, l) := OT.inst ρ t l; x :: OT.insts ρ ts l

def blankA : Nat → List AV
  | 0 => []
  | n + 1 => .undef :: blankA n

def instFr : List (Nat × Tp) → List Dat → List AV → List AV × List Dat
  | [], l, fr => (fr, l)
  | (i, t) :: r, l, fr => let (x, l) := t.inst (fun j => j) l; instFr r l (setA fr i x)

/-- The state of `n` slots that a shape and its data tell. -/
def Sh.st (sh : Sh) (n : Nat) (d : Den sh.ds) : St :=
  let (fr, l) := instFr sh.fr (Den.list sh.ds d) (blankA n)
  ⟨fr, OT.insts (fun j => j) sh.hp l⟩

/-! ### matching: the data of a state under a shape -/

structure M where
  ren : List (Nat × Nat)      -- canonical number, number
  ds : List Dat               -- data, the last first
  nid : Nat
  add : Delta                 -- nil slices made own
  frz : List Nat              -- own arrays read as read-only

def renA : List (Nat × Nat) → Nat → Option Nat
  | [], _ => none
  | (j, i) :: r, k => cond (Nat.beq j k) (some i) (renA r k)

def renHas : List (Nat × Nat) → Nat → Bool
  | [], _ => false
  | (_, i) :: r, k => cond (Nat.beq i k) true (renHas r k)

def M.ref (m : M) (j id : Nat) : Option M :=
  match renA m.ren j with
  | some i => cond (Nat.beq i id) (some m) none
  | none => cond (renHas m.ren id) none (some { m with ren := (j, id) :: m.ren })

def M.data (m : M) (x : Dat) : M := { m with ds := x :: m.ds }

/-- A read-only slice's content. -/
def roOf (h : Nat → Ob) (t : FT) : AV → Option (List (El t) × List Nat)
  | .ro t' xs => if e : t' = t then some (e ▸ xs, []) else none
  | .nilsl => some ([], [])
  | .full id => match h id with
    | .arr t' xs => if e : t' = t then some (e ▸ xs, [id]) else none
    | _ => none
  | .psl id sz o n => match h id with
    | .arr t' xs => if e : t' = t then cond (Nat.beq sz (lenL t)) (some (((e ▸ xs : List (El t)).drop o).take n, [id])) none else none
    | _ => none
  | _ => none

mutual
def Tp.mt (h : Nat → Ob) (ots : Nat → OT) : Tp → AV → M → Option M
  | .undef, _, m => some m
  | .sc (.int k), .int k' n, m => if k = k' then some (m.data ⟨.int k, n⟩) else none
  | .sc .bool, .bool b, m => some (m.data ⟨.bool, b⟩)
  | .sc .str, .str s, m => some (m.data ⟨.str, s⟩)
  | .sc (.list t), a, m => match roOf h t a with
    | some (xs, ids) => some { m with ds := ⟨.list t, xs⟩ :: m.ds, frz := catL ids m.frz }
    | none => none
  | .full j, .full id, m => m.ref j id
  | .full j, .nilsl, m => match ots j with
    | .arr t => M.ref { m with nid := m.nid + 1, add := (m.nid, .arr t []) :: m.add } j m.nid
    | _ => none
  | .ptr j o, .ptr id o', m => cond (Nat.beq o o') (m.ref j id) none
  | .map j, .map id, m => m.ref j id
  | .nilp, .nilp, m => some m
  | .cint k n, .int k' n', m => if k = k' then (if n = n' then some m else none) else none
  | .cstr s, .str s', m => if s = s' then some m else none
  | .gptr g o, .gptr g' o', m => cond (Nat.beq g g' && Nat.beq o o') (some m) none
  | .fn f a b, .fn f' a' b', m => cond (Nat.beq f f') (match Tp.mts h ots a a' m with
      | some m => Tp.mts h ots b b' m
      | none => none) none
  | .agg l, .agg l', m => Tp.mts h ots l l' m
  | .tup l, .tup l', m => Tp.mts h ots l l' m
  | _, _, _ => none
def Tp.mts (h : Nat → Ob) (ots : Nat → OT) : List Tp → List AV → M → Option M
  | [], [], m => some m
  | t :: ts, a :: as, m => match Tp.mt h ots t a m with
    | some m => Tp.mts h ots ts as m
    | none => none
  | _, _, _ => none
end

def OT.mt (h : Nat → Ob) (ots : Nat → OT) (add : M → Nat → Ob) : OT → Nat → M → Option M
  | .dead, _, m => some m
  | .box l, j, m => match renA m.ren j with
    | some id => match add m id with
      | .box cs => Tp.mts h ots l cs m
      | _ => none
    | none => none
  | .arr t, j, m => match renA m.ren j with
    | some id => match add m id with
      | .arr t' xs => if t' = t then some (m.data ⟨.list t', xs⟩) else none
      | _ => none
    | none => none
  | .map k v, j, m => match renA m.ren j with
    | some id => match add m id with
      | .map k' v' es => if k' = k then (if v' = v then some (m.data ⟨.map k' v', es⟩) else none) else none
      | _ => none
    | none => none

def lookD : Delta → (Nat → Ob) → Nat → Ob
  | [], h, i => h i
  | (j, o) :: d, h, i => cond (Nat.beq j i) o (lookD d h i)

def OT.mts (h : Nat → Ob) (ots : Nat → OT) : List OT → Nat → M → Option M
  | [], _, m => some m
  | t :: ts, j, m => match OT.mt h ots (fun m => lookD m.add h) t j m with
    | some m => OT.mts h ots ts (j + 1) m
    | none => none

def getOT : List OT → Nat → OT
  | [], _ => .dead
  | a :: _, 0 => a
  | _ :: l, n + 1 => getOT l n

def idRen : Nat → List (Nat × Nat)
  | 0 => []
  | n + 1 => (n, n) :: idRen n

/-- No own array that is read as read-only is kept as own. -/
def frzOk : List (Nat × Nat) → List Nat → Bool
  | _, [] => true
  | r, i :: l => !renHas r i && frzOk r l

def renLt : List (Nat × Nat) → Nat → Nat → Bool
  | [], _, _ => true
  | (j, i) :: r, n, k => (Nat.blt j n && Nat.blt i k) && renLt r n k

/-- A matching that stands. -/
def M.ok (m : M) (n : Nat) : Bool := frzOk m.ren m.frz && renLt m.ren n m.nid

def frMt (h : Nat → Ob) (ots : Nat → OT) (fr : List AV) : List (Nat × Tp) → M → Option M
  | [], m => some m
  | (i, t) :: r, m => match t.mt h ots (getA fr i) m with
    | some m => frMt h ots fr r m
    | none => none

/-- The data of a state under a shape; the first `keep` numbers stay as they are. -/
def Sh.of (sh : Sh) (keep : Nat) (st : St) : Option (Den sh.ds) :=
  match frMt (getH st.hp) (getOT sh.hp) st.fr sh.fr ⟨idRen keep, [], (lenL st.hp), [], []⟩ with
  | some m => match OT.mts (getH st.hp) (getOT sh.hp) sh.hp 0 m with
    | some m => cond (m.ok (lenL sh.hp)) (Den.of sh.ds (revL m.ds [])) none
    | none => none
  | none => none

/-! ### contracts -/

structure Out where
  ds : List DT
  res : Tp
  hp : List OT

structure Spec where
  keep : Nat        -- the first so many objects stay what they are; the others are used up
  args : List Tp
  ihp : List OT
  ids : List DT
  out : Out
  F : Den ids → Option (Den out.ds)

mutual
def hasRo : Tp → Bool
  | .sc (.list _) => true
  | .fn _ a b => hasRos a || hasRos b
  | .agg l => hasRos l
  | .tup l => hasRos l
  | _ => false
def hasRos : List Tp → Bool
  | [] => false
  | t :: l => hasRo t || hasRos l
end

def ftRo : FT → Bool
  | [] => false
  | .ints _ :: _ => true
  | _ :: l => ftRo l

def OT.hasRo : OT → Bool
  | .box l => hasRos l
  | .arr t => ftRo t
  | .map _ v => ftRo v
  | .dead => false

mutual
/-- The data that a type takes up. -/
def Tp.fit : Tp → List DT → Option (List DT)
  | .sc _, [] => none
  | .sc d, d' :: r => if d = d' then some r else none
  | .fn _ a b, l => match Tp.fits a l with
    | some l => Tp.fits b l
    | none => none
  | .agg a, l => Tp.fits a l
  | .tup a, l => Tp.fits a l
  | _, l => some l
def Tp.fits : List Tp → List DT → Option (List DT)
  | [], l => some l
  | t :: ts, l => match Tp.fit t l with
    | some l => Tp.fits ts l
    | none => none
end

def OT.fit : OT → List DT → Option (List DT)
  | .dead, l => some l
  | .box a, l => Tp.fits a l
  | .arr t, d :: l => if d = .list t then some l else none
  | .map k v, d :: l => if d = .map k v then some l else none
  | _, [] => none

def OT.fits : List OT → List DT → Option (List DT)
  | [], l => some l
  | t :: ts, l => match OT.fit t l with
    | some l => OT.fits ts l
    | none => none

/-- A contract that is well made. -/
def Spec.wf (S : Spec) : Bool := Nat.ble S.keep (lenL S.ihp) && (match Tp.fit S.out.res S.out.ds with
  | some l => (OT.fits S.out.hp l).isSome
  | none => false)

def Out.hasRo (o : Out) : Bool := Ev.hasRo o.res || anyL OT.hasRo o.hp

/-- The data of a call's arguments under a contract. -/
def Spec.enter (S : Spec) (args : List AV) (h : Nat → Ob) (nid : Nat) : Option (Den S.ids × M) :=
  match Tp.mts h (getOT S.ihp) S.args args ⟨[], [], nid, [], []⟩ with
  | some m => match OT.mts h (getOT S.ihp) S.ihp 0 m with
    | some m => cond (m.ok (lenL S.ihp)) (match Den.of S.ids (revL m.ds []) with
      | some d => some (d, m)
      | none => none) none
    | none => none
  | none => none

/-- Where a contract's objects lie for the caller. -/
def M.actual (m : M) (n : Nat) (j : Nat) : Nat := cond (Nat.blt j n) (match renA m.ren j with | some i => i | none => 0) (m.nid + (j - n))

/-- The objects that a call uses up. -/
def M.gone (m : M) : Nat → Nat → Delta
  | _, 0 => []
  | j, n + 1 => match renA m.ren j with
    | some i => (i, .dead) :: m.gone (j + 1) n
    | none => m.gone (j + 1) n

def objD (f : Nat → Nat) : Nat → Heap → Delta
  | _, [] => []
  | j, o :: r => (f j, o) :: objD f (j + 1) r

def killD : List Nat → Delta
  | [] => []
  | i :: l => (i, .dead) :: killD l

def Spec.leave (S : Spec) (m : M) (r : Den S.out.ds) : AV × Delta :=
  let (v, l) := S.out.res.inst (m.actual S.keep) (Den.list S.out.ds r)
  (v, catL (revL m.add []) (catL (m.gone 0 (lenL S.ihp)) (catL (objD (m.actual S.keep) 0 (OT.insts (m.actual S.keep) S.out.hp l)) (cond S.out.hasRo (killD m.frz) []))))

/-- The first contract that the arguments fit. -/
def callS {ρ : Type} (args : List AV) (h : Nat → Ob) (nid : Nat) (K : AV → Delta → Option ρ) : List Spec → Option ρ
  | [] => none
  | S :: r => match S.enter args h nid with
    | some (d, m) => (S.F d).bind fun r => K (S.leave m r).1 (S.leave m r).2
    | none => callS args h nid K r

/-- How calls are carried out: the function's number, the arguments, the objects, the next free number. -/
structure Hnd where
  run : {ρ : Type} → Nat → List AV → (Nat → Ob) → Nat → (AV → Delta → Option ρ) → Option ρ

/-! ### operations -/

structure Ctx where
  ty : Nat → TI
  glob : Nat → List AV

def bytesA (b : ByteArray) : Str := b.data.toList

def const1 : Value → Option AV
  | .int k n => some (.int k n)
  | .bool b => some (.bool b)
  | .string s => some (.str (bytesA s))
  | .slice none 0 0 => some .nilsl
  | .pointer none => some .nilp
  | _ => none

def constL : List Value → Option (List AV)
  | [] => some []
  | v :: l => match const1 v, constL l with
    | some a, some as => some (a :: as)
    | _, _ => none

def constA : Value → AV
  | .agg cs => match constL cs.toList with
    | some as => .agg as
    | none => .undef
  | v => match const1 v with
    | some a => a
    | none => .undef

def opnd (fr : List AV) : Operand → AV
  | .tmp t => getA fr t
  | .const v => constA v
  | .global g => .gptr g 0
  | .func f => .fn f [] []

def w64 (n : Int) : Int := IntKind.i64.wrap n

def wr (k : IntKind) (n : Int) : Int := match k with
  | .i64 => w64 n
  | k => k.wrap n

def iand (k : IntKind) (x y : Int) : Int := k.wrap (BitVec.ofInt k.bits x &&& BitVec.ofInt k.bits y).toNat
def ior (k : IntKind) (x y : Int) : Int := k.wrap (BitVec.ofInt k.bits x ||| BitVec.ofInt k.bits y).toNat
def ixor (k : IntKind) (x y : Int) : Int := k.wrap (BitVec.ofInt k.bits x ^^^ BitVec.ofInt k.bits y).toNat
def ishl (k : IntKind) (x y : Int) : Int := k.wrap (x * 2 ^ (min y.toNat k.bits))
def ishr (k : IntKind) (x y : Int) : Int := x.fdiv (2 ^ (min y.toNat k.bits))

/-- The bound on what grows. -/
def LIM : Nat := 1099511627776
def fits (n : Nat) : Bool := Nat.ble n LIM

def TD.isBool : TD → Bool
  | .bool => true
  | _ => false

def binA {ρ : Type} (op : BinOp) (isB : Bool) (x y : AV) (K : AV → Option ρ) : Option ρ :=
  match op, x, y with
  | .shl, .int k a, .int _ b => need (decide (0 ≤ b)) (K (.int k (ishl k a b)))
  | .shr, .int k a, .int _ b => need (decide (0 ≤ b)) (K (.int k (ishr k a b)))
  | op, .int k a, .int k' b => if k = k' then (match op with
      | .add => K (.int k (wr k (a + b)))
      | .sub => K (.int k (wr k (a - b)))
      | .mul => K (.int k (wr k (a * b)))
      | .quo => need (b != 0) (K (.int k (wr k (a.tdiv b))))
      | .rem => need (b != 0) (K (.int k (a.tmod b)))
      | .and => K (.int k (iand k a b))
      | .or => K (.int k (ior k a b))
      | .xor => K (.int k (ixor k a b))
      | .eql => K (.bool (a == b))
      | .neq => K (.bool (a != b))
      | .lss => K (.bool (decide (a < b)))
      | .leq => K (.bool (decide (a ≤ b)))
      | .gtr => K (.bool (decide (a > b)))
      | .geq => K (.bool (decide (a ≥ b)))
      | _ => none) else none
  | .add, .str a, .str b => need (fits (a.length + b.length)) (K (.str (a ++ b)))
  | .eql, .str a, .str b => K (.bool (a == b))
  | .neq, .str a, .str b => K (.bool (!(a == b)))
  | .lss, .str a, .str b => K (.bool (Op.bytesLess a b))
  | .leq, .str a, .str b => K (.bool (Op.bytesLess a b || a == b))
  | .gtr, .str a, .str b => K (.bool (!(Op.bytesLess a b || a == b)))
  | .geq, .str a, .str b => K (.bool (!(Op.bytesLess a b)))
  | .eql, .bool a, .bool b => cond isB (K (.bool (a == b))) none
  | .neq, .bool a, .bool b => cond isB (K (.bool (!(a == b)))) none
  | _, _, _ => none

def selA (b : Bool) : AV → AV → AV
  | .bool x, .bool y => .bool (cond b x y)
  | x, y => cond b x y

def pairs (av : Operand → AV) : List (Nat × Operand) → List (Nat × AV)
  | [] => []
  | (i, x) :: l => (i, av x) :: pairs av l

def fieldOff : List (Nat × Nat × Bool) → Nat → Option (Nat × Nat × Bool)
  | [], _ => none
  | f :: _, 0 => some f
  | _ :: l, n + 1 => fieldOff l n

def placeOf (fs : List (Nat × Nat × Bool)) (i : Nat) : Option (Nat × Nat) :=
  match fieldOff fs i with
  | some (o, n, _) => some (o, n)
  | none => none

/-- Parts laid into cells: `place` tells where a part lies and how many cells it has. -/
def fillA (place : Nat → Option (Nat × Nat)) : List AV → List (Nat × AV) → Option (List AV)
  | cs, [] => some cs
  | cs, (i, v) :: r => match place i, cellsA v with
    | some (o, n), some vs => cond (Nat.beq (lenL vs) n && Nat.ble (o + n) (lenL cs)) (fillA place (putCells cs o vs) r) none
    | _, _ => none

def repA : Nat → List AV → List AV
  | 0, _ => []
  | n + 1, z => catL z (repA n z)

/-- Own arrays within cells become read-only: what they hold, and which they are. -/
def thaw (h : Nat → Ob) : List AV → List AV × Delta
  | [] => ([], [])
  | .full id :: l => let (r, d) := thaw h l
    match h id with
    | .arr t xs => (.ro t xs :: r, (id, .dead) :: d)
    | _ => (.undef :: r, d)
  | a :: l => let (r, d) := thaw h l; (a :: r, d)

def noKey : Delta → Nat → Bool
  | [], _ => true
  | (j, _) :: d, i => cond (Nat.beq j i) false (noKey d i)

def partA (agg : Bool) (n : Nat) (cs : List AV) (o : Nat) : Option AV :=
  cond (Nat.ble (o + n) (lenL cs)) (some (cond agg (.agg (takeA n (dropA o cs))) (getA cs o))) none

def TD.isAgg : TD → Bool
  | .struct _ => true
  | _ => false

def TD.isOther : TD → Bool
  | .other => true
  | _ => false

def intOfA : AV → Option Int
  | .int _ n => some n
  | _ => none

def sliceStr {ρ : Type} (s : Str) (lo hi : Option AV) (K : AV → Option ρ) : Option ρ :=
  match lo, hi with
  | none, none => K (.str s)
  | some (.int _ l), none => need (decide (0 ≤ l) && decide (l ≤ s.length)) (K (.str (s.drop l.toNat)))
  | none, some (.int _ h) => need (decide (0 ≤ h) && decide (h ≤ s.length)) (K (.str (s.take h.toNat)))
  | some (.int _ l), some (.int _ h) => need (decide (0 ≤ h) && decide (h ≤ s.length)) (need (decide (0 ≤ l) && decide (l ≤ h)) (K (.str ((s.take h.toNat).drop l.toNat))))
  | _, _ => none

def sliceRo {ρ : Type} (t : FT) (s : List (El t)) (lo hi : Option AV) (K : AV → Option ρ) : Option ρ :=
  match lo, hi with
  | none, none => K (.ro t s)
  | some (.int _ l), none => need (decide (0 ≤ l) && decide (l ≤ s.length)) (K (.ro t (s.drop l.toNat)))
  | none, some (.int _ h) => need (decide (0 ≤ h) && decide (h ≤ s.length)) (K (.ro t (s.take h.toNat)))
  | some (.int _ l), some (.int _ h) => need (decide (0 ≤ h) && decide (h ≤ s.length)) (need (decide (0 ≤ l) && decide (l ≤ h)) (K (.ro t ((s.take h.toNat).drop l.toNat))))
  | _, _ => none

/-- A piece of an own array of `n` elements. -/
def slicePsl {ρ : Type} (id sz n : Nat) (lo hi : Option AV) (K : AV → Option ρ) : Option ρ :=
  match lo, hi with
  | none, none => K (.full id)
  | some (.int _ l), none => need (decide (0 ≤ l) && decide (l ≤ n)) (K (.psl id sz l.toNat (n - l.toNat)))
  | none, some (.int _ h) => need (decide (0 ≤ h) && decide (h ≤ n)) (K (.psl id sz 0 h.toNat))
  | some (.int _ l), some (.int _ h) => need (decide (0 ≤ h) && decide (h ≤ n)) (need (decide (0 ≤ l) && decide (l ≤ h)) (K (.psl id sz l.toNat (h.toNat - l.toNat))))
  | _, _ => none

def sameOpd : Operand → Operand → Bool
  | .tmp a, .tmp b => Nat.beq a b
  | _, _ => false

def minA (a b : Int) : Int := if b < a then b else a
def maxA (a b : Int) : Int := if a < b then b else a

def foldI (f : Int → Int → Int) (k : IntKind) (n : Int) : List AV → Option (IntKind × Int)
  | [] => some (k, n)
  | .int k' m :: r => if k = k' then foldI f k (f n m) r else none
  | _ => none

def foldA (f : Int → Int → Int) : List AV → Option (IntKind × Int)
  | .int k n :: r => foldI f k n r
  | _ => none

def TD.isStr : TD → Bool
  | .str => true
  | _ => false

def lenA {ρ : Type} (h : Nat → Ob) (K : AV → Option ρ) (isStr : Bool) : AV → Option ρ
  | .str s => cond isStr (K (.int .i64 s.length)) none
  | .ro _ xs => cond isStr none (K (.int .i64 xs.length))
  | .nilsl => cond isStr none (K (.int .i64 0))
  | .full id => match h id with
    | .arr _ xs => cond isStr none (K (.int .i64 xs.length))
    | _ => none
  | .psl _ _ _ n => cond isStr none (K (.int .i64 n))
  | _ => none

def toBytes (xs : List Int) : Str := xs.map fun n => UInt8.ofNat n.toNat
def ofBytes (s : Str) : List Int := s.map fun b => (b.toNat : Int)

def isBytes : FT → Bool
  | [.int .u8] => true
  | _ => false

/-- The elements that are appended. -/
def srcOf (h : Nat → Ob) (t : FT) : AV → Option (List (El t))
  | .str s => match t with
    | [.int .u8] => some (ofBytes s)
    | _ => none
  | a => match roOf h t a with
    | some (xs, _) => some xs
    | none => none

def appA {ρ : Type} (h : Nat → Ob) (nid : Nat) (ft : Option FT) (s x : AV) (K : AV → Delta → Option ρ) : Option ρ :=
  match ft with
  | some t => match srcOf h t x with
    | some ys => match s with
      | .full id => match h id with
        | .arr t' xs => if e : t' = t then need (fits (xs.length + ys.length)) (K (.full nid) [(id, .dead), (nid, .arr t ((e ▸ xs) ++ ys))]) else none
        | _ => none
      | .nilsl => need (fits ys.length) (K (.full nid) [(nid, .arr t ys)])
      | _ => none
    | none => none
  | none => none

def slcOrStr : TD → Bool
  | .slice _ => true
  | .str => true
  | _ => false

def evOp {ρ : Type} (C : Ctx) (o : Op) (av : Operand → AV) (h : Nat → Ob) (nid : Nat) (K : AV → Delta → Option ρ) : Option ρ :=
  match o with
  | .move x => K (av x) []
  | .assign x => K (av x) []
  | .pick c a b => match av c with
    | .bool t => K (selA t (av a) (av b)) []
    | _ => none
  | .alloc t => cond (C.ty t).d.isOther none (K (.ptr nid 0) [(nid, .box (C.ty t).zero)])
  | .box _ x => match cellsA (av x) with
    | some cs => K (.ptr nid 0) [(nid, .box cs)]
    | none => none
  | .build t ps => match (C.ty t).d with
    | .struct fs => match fillA (placeOf fs) (C.ty t).zero (pairs av ps.toList) with
      | some cs => K (.agg cs) []
      | none => none
    | _ => none
  | .buildSlice t n ps => match (C.ty t).d with
    | .slice e => match (C.ty e).ft with
      | some ft => cond (Nat.ble (n * (C.ty e).size) 16777216) (match fillA (fun i => some (i * (C.ty e).size, (C.ty e).size)) (repA n (C.ty e).zero) (pairs av ps.toList) with
        | some cs => let (cs, d) := thaw h cs
          match El.ofs ft (C.ty e).size n cs with
          | some xs => K (.full nid) (catL d [(nid, .arr ft xs)])
          | none => none
        | none => none) none
      | none => none
    | _ => none
  | .load t p => cond (C.ty t).d.isOther none (match av p with
    | .ptr id o => match h id with
      | .box cs => match partA (C.ty t).d.isAgg (C.ty t).size cs o with
        | some v => K v []
        | none => none
      | _ => none
    | .roe ft x f => match partA (C.ty t).d.isAgg (C.ty t).size (El.cells ft x) f with
      | some v => K v []
      | none => none
    | .elp id sz j f => match h id with
      | .arr ft xs => cond (Nat.beq sz (lenL ft)) (match partA (C.ty t).d.isAgg (C.ty t).size (El.cells ft (xs.getD j (El.dflt ft))) f with
        | some v => K v []
        | none => none) none
      | _ => none
    | .gptr g o => match partA (C.ty t).d.isAgg (C.ty t).size (C.glob g) o with
      | some v => K v []
      | none => none
    | _ => none)
  | .store t p x => cond (C.ty t).d.isOther none (match cellsA (av x) with
    | some vs => cond (Nat.beq (lenL vs) (C.ty t).size) (match av p with
      | .ptr id o => match h id with
        | .box cs => cond (Nat.ble (o + (lenL vs)) (lenL cs)) (K (.tup []) [(id, .box (putCells cs o vs))]) none
        | _ => none
      | .elp id sz j f => match h id with
        | .arr ft xs => cond (Nat.beq sz (lenL ft) && Nat.ble (f + (lenL vs)) (lenL ft)) (let (vs, d) := thaw h vs
          match El.of ft (putCells (El.cells ft (xs.getD j (El.dflt ft))) f vs) with
          | some y => cond (noKey d id) (K (.tup []) ((id, .arr ft (xs.set j y)) :: d)) none
          | none => none) none
        | _ => none
      | _ => none) none
    | none => none)
  | .nilCheck x => match av x with
    | .ptr id o => K (.ptr id o) []
    | .elp a b c d => K (.elp a b c d) []
    | .roe t y f => K (.roe t y f) []
    | .gptr g o => K (.gptr g o) []
    | _ => none
  | .binOp op t x y _ => binA op (C.ty t).d.isBool (av x) (av y) fun v => K v []
  | .unOp op _ x => match op, av x with
    | .not, .bool b => K (.bool (!b)) []
    | .neg, .int k n => K (.int k (wr k (0 - n))) []
    | .xor, .int k n => K (.int k (ixor k (if k.signed then -1 else k.max) n)) []
    | _, _ => none
  | .convert src dst x => cond (C.ty src).d.isOther none (match (C.ty dst).d, av x with
    | .int k, .int _ n => K (.int k (wr k n)) []
    | .str, .str s => K (.str s) []
    | .str, a => match (C.ty src).d with
      | .slice e => match (C.ty e).d with
        | .int .u8 => match roOf h [.int .u8] a with
          | some (xs, _) => K (.str (toBytes xs)) []
          | none => none
        | _ => none
      | _ => none
    | _, _ => none)
  | .makeFunc (.func f) a b => K (.fn f (mapL av a.toList) (mapL av b.toList)) []
  | .makeSlice t l c => match (C.ty t).d, av l with
    | .slice e, .int _ n => match (C.ty e).ft with
      | some ft => cond (sameOpd l c) (need (decide (0 ≤ n) && fits n.toNat) (K (.full nid) [(nid, .arr ft (List.replicate n.toNat (El.dflt ft)))])) none
      | none => none
    | _, _ => none
  | .slice t x lo hi none => match (C.ty t).d with
    | .str => match av x with
      | .str s => sliceStr s (mapO av lo) (mapO av hi) fun v => K v []
      | _ => none
    | .slice e => cond (C.ty e).d.isOther none (match av x with
      | .ro t xs => cond (Nat.beq (lenL t) (C.ty e).size) (sliceRo t xs (mapO av lo) (mapO av hi) fun v => K v []) none
      | .full id => match h id with
        | .arr t xs => cond (Nat.beq (lenL t) (C.ty e).size) (slicePsl id (lenL t) xs.length (mapO av lo) (mapO av hi) fun v => K v []) none
        | _ => none
      | _ => none)
    | _ => none
  | .fieldAddr t x f => match (C.ty t).d with
    | .struct fs => match fieldOff fs f with
      | some (o, n, _) => cond (Nat.ble 1 n) (match av x with
        | .ptr id p => K (.ptr id (p + o)) []
        | .roe ft y p => K (.roe ft y (p + o)) []
        | .elp id s j p => K (.elp id s j (p + o)) []
        | .gptr g p => K (.gptr g (p + o)) []
        | _ => none) none
      | none => none
    | _ => none
  | .field t x f => match (C.ty t).d, av x with
    | .struct fs, .agg cs => match fieldOff fs f with
      | some (o, n, g) => cond (Nat.ble 1 n) (match partA g n cs o with
        | some v => K v []
        | none => none) none
      | none => none
    | _, _ => none
  | .indexAddr t x i => match (C.ty t).d, av i with
    | .slice e, .int _ n => cond (C.ty e).d.isOther none (match av x with
      | .full id => match h id with
        | .arr t xs => cond (Nat.beq (lenL t) (C.ty e).size) (need (decide (0 ≤ n) && decide (n < xs.length)) (K (.elp id (lenL t) n.toNat 0) [])) none
        | _ => none
      | .ro t xs => cond (Nat.beq (lenL t) (C.ty e).size) (need (decide (0 ≤ n) && decide (n < xs.length)) (K (.roe t (xs.getD n.toNat (El.dflt t)) 0) [])) none
      | _ => none)
    | _, _ => none
  | .index t x i => match (C.ty t).d, av x, av i with
    | .str, .str s, .int _ n => need (decide (0 ≤ n) && decide (n < s.length)) (K (.int .u8 ((s.getD n.toNat 0).toNat : Int)) [])
    | _, _, _ => none
  | .extract x i => match av x with
    | .tup vs => cond (Nat.blt i (lenL vs)) (K (getA vs i) []) none
    | _ => none
  | .call { callee := .builtin b, args, argTypes } => match b, args.toList with
    | .len, [x] => match argTypes.toList with
      | [t] => cond (slcOrStr (C.ty t).d) (lenA h (fun v => K v []) (C.ty t).d.isStr (av x)) none
      | _ => none
    | .append, [s, x] => match argTypes.toList with
      | [t1, t2] => match (C.ty t1).d with
        | .slice e => cond (slcOrStr (C.ty t2).d) (appA h nid (C.ty e).ft (av s) (av x) K) none
        | _ => none
      | _ => none
    | .min, l => match foldA minA (mapL av l) with
      | some (k, n) => K (.int k n) []
      | none => none
    | .max, l => match foldA maxA (mapL av l) with
      | some (k, n) => K (.int k n) []
      | none => none
    | _, _ => none
  | _ => none

/-- An operation, a call of a Go function by `H`. -/
def evOper {ρ : Type} (C : Ctx) (H : Hnd) (o : Oper) (av : Operand → AV) (h : Nat → Ob) (nid : Nat) (K : AV → Delta → Option ρ) : Option ρ :=
  match o.op with
  | .call { callee := .value f, args, .. } => match av f with
    | .fn f first cap => H.run f (catL first (catL (mapL av args.toList) cap)) h nid K
    | _ => none
  | op => evOp C op av h nid K

/-! ### regions -/

def dstOf : List Oper → Nat → Option Nat
  | [], _ => none
  | o :: _, 0 => o.dst
  | _ :: l, n + 1 => dstOf l n

def putA (fr : List AV) : Option Nat → AV → List AV
  | none, _ => fr
  | some d, v => setA fr d v

/-! Operations of a region whose order is drawn: those that stand ahead of one are told by bits. -/

def bindsA (e : Edge) : Bool := match e.ground with
  | .textOnly _ => false
  | .gcOnly _ => false
  | _ => true

def getN : List Nat → Nat → Nat
  | [], _ => 0
  | a :: _, 0 => a
  | _ :: l, n + 1 => getN l n

def ancE (acc : List Nat) (i : Nat) : List Edge → Nat → Nat
  | [], s => s
  | e :: r, s => ancE acc i r (cond (bindsA e && Nat.blt e.on i) (Nat.lor s (Nat.lor (Nat.pow 2 e.on) (getN acc e.on))) s)

/-- For each operation, in order, those that must have been carried out. -/
def ancs : List Oper → Nat → List Nat → List Nat
  | [], _, acc => acc
  | o :: r, i, acc => ancs r (i + 1) (catL acc [ancE acc i o.after.toList 0])

def edgeOk (i : Nat) : List Edge → Bool
  | [] => true
  | e :: r => cond (bindsA e) (cond (Nat.blt e.on i) (edgeOk i r) false) (edgeOk i r)

/-- Each operation stands behind those that it waits for. -/
def edgesOk : List Oper → Nat → Bool
  | [], _ => true
  | o :: r, i => cond (edgeOk i o.after.toList) (edgesOk r (i + 1)) false

/-- Neither stands ahead of the other. -/
def besideA (A : List Nat) (i j : Nat) : Bool := !Nat.beq i j && !Nat.testBit (getN A i) j && !Nat.testBit (getN A j) i

def memN : List Nat → Nat → Bool
  | [], _ => false
  | a :: l, n => cond (Nat.beq a n) true (memN l n)

/-- The slots that operations beside `i` write are not looked at. -/
def blankC (A : List Nat) (i : Nat) : List Oper → Nat → List AV → List AV
  | [], _, fr => fr
  | o :: r, j, fr => blankC A i r (j + 1) (match o.dst with
    | some d => cond (besideA A i j) (setA fr d .undef) fr
    | none => fr)

def eqDst : Option Nat → Option Nat → Bool
  | some a, some b => Nat.beq a b
  | _, _ => false

def dstOk1 (A : List Nat) (i : Nat) (d : Option Nat) : List Oper → Nat → Bool
  | [], _ => true
  | o :: r, j => cond (eqDst d o.dst) (cond (besideA A i j) false (dstOk1 A i d r (j + 1))) (dstOk1 A i d r (j + 1))

/-- Operations beside each other write other slots. -/
def dstOk (A : List Nat) (all : List Oper) : List Oper → Nat → Bool
  | [], _ => true
  | o :: r, i => cond (dstOk1 A i o.dst all 0) (dstOk A all r (i + 1)) false

/-- What an operation did: its place, the objects that it touched, the next free number ahead of it. -/
structure LogE where
  ix : Nat
  keys : List Nat
  nid : Nat

def keysD : Delta → List Nat
  | [] => []
  | (i, _) :: d => i :: keysD d

def hideL (A : List Nat) (i : Nat) : List LogE → List Nat → List Nat
  | [], l => l
  | e :: r, l => hideL A i r (cond (besideA A i e.ix) (catL e.keys l) l)

def maskH (l : List Nat) (h : Nat → Ob) : Nat → Ob := fun id => cond (memN l id) .dead (h id)

/-- The object `k`, touched by `i`, is looked at by no operation beside it. -/
def keyOk (A : List Nat) (cm : Nat → List Nat) (i k : Nat) : List LogE → Bool
  | [] => true
  | e :: r => cond (besideA A i e.ix) (cond (memN (cm e.ix) k || Nat.ble e.nid k) (keyOk A cm i k r) false) (keyOk A cm i k r)

def keysOk (A : List Nat) (cm : Nat → List Nat) (i : Nat) (lg : List LogE) (hid : List Nat) : List Nat → Bool
  | [] => true
  | k :: r => cond (memN hid k) false (cond (keyOk A cm i k lg) (keysOk A cm i lg hid r) false)

/-- How a region is carried out: in the order of its text, or in any that the bits allow; then `cm` tells the objects that operations beside one may touch. -/
structure Order where
  draw : Bool
  A : List Nat
  cm : Nat → List Nat

def Order.fr (O : Order) (all : List Oper) (i : Nat) (fr : List AV) : List AV := cond O.draw (blankC O.A i all 0 fr) fr
def Order.hid (O : Order) (i : Nat) (lg : List LogE) : List Nat := cond O.draw (hideL O.A i lg (O.cm i)) []
def Order.hp (O : Order) (i : Nat) (lg : List LogE) (h : Nat → Ob) : Nat → Ob := cond O.draw (maskH (O.hid i lg) h) h
def Order.ok (O : Order) (i : Nat) (lg : List LogE) (d : Delta) : Bool := cond O.draw (keysOk O.A O.cm i lg (O.hid i lg) (keysD d)) true

/-- Operations one behind the other; where a guard is not literal, both ways. -/
def evOps {ρ : Type} (C : Ctx) (H : Hnd) (O : Order) (all : List Oper) : List Oper → Nat → List AV → Heap → List LogE → (List AV → Heap → List LogE → Option ρ) → Option ρ
  | [], _, fr, h, lg, K => K fr h lg
  | o :: r, i, fr, h, lg, K =>
    let go (fr : List AV) := evOper C H o (opnd (O.fr all i fr)) (O.hp i lg (getH h)) (lenL h) fun v d =>
      cond (O.ok i lg d) (evOps C H O all r (i + 1) (putA fr o.dst v) (apD h d) (⟨i, keysD d, (lenL h)⟩ :: lg) K) none
    let skip (fr : List AV) := evOps C H O all r (i + 1) (putA fr o.dst (.tup [])) h lg K
    match o.guard with
    | none => go fr
    | some (j, want) => match dstOf all j with
      | none => none
      | some t => match getA (O.fr all i fr) t with
        | .bool b => cond b
            (cond want (go (setA fr t (.bool true))) (skip (setA fr t (.bool true))))
            (cond want (skip (setA fr t (.bool false))) (go (setA fr t (.bool false))))
        | .tup [] => skip fr
        | _ => none

/-- Data of slots. -/
def outsOf (fr : List AV) : List (Nat × Tp) → List Dat → Option (List Dat)
  | [], l => some (revL l [])
  | (i, t) :: r, l => match t, getA fr i with
    | .sc (.int k), .int k' n => if k = k' then outsOf fr r (⟨.int k, n⟩ :: l) else none
    | .sc .bool, .bool b => outsOf fr r (⟨.bool, b⟩ :: l)
    | .sc .str, .str s => outsOf fr r (⟨.str, s⟩ :: l)
    | _, _ => none

def blankOps : List Oper → List AV → List AV
  | [], fr => fr
  | o :: r, fr => blankOps r (putA fr o.dst .undef)

/-- No object was touched. -/
def quiet : List LogE → Bool
  | [] => true
  | e :: r => match e.keys with
    | [] => quiet r
    | _ => false

def loopN {T σ : Type} (step : (T → Option σ) → T → Option σ) : Nat → T → Option σ
  | 0 => fun _ => none
  | n + 1 => step (loopN step n)

inductive Ann where
  | u
  | seq (a b : Ann)
  | cond (t e : Ann)
  | blk (a : Ann)
  | reg (ds : List DT) (outs : List (Nat × Tp))
  | cm (l : List (Nat × List Nat))
  | join (sh : Sh) (a b : Ann)
  | joinS (sh : Sh) (a b : Ann)
  | loop (sh : Sh) (fuel : Den sh.ds → Nat) (xid : Nat) (out : Sh) (a : Ann)
  | loopS (sh : Sh) (fuel : Den sh.ds → Nat) (xid : Nat) (out : Sh) (a : Ann)

def Ann.l : Ann → Ann
  | .seq a _ => a
  | .cond a _ => a
  | .blk a => a
  | _ => .u
def Ann.r : Ann → Ann
  | .seq _ b => b
  | .cond _ b => b
  | _ => .u

def cmOf : List (Nat × List Nat) → Nat → List Nat
  | [], _ => []
  | (j, l) :: r, i => cond (Nat.beq j i) l (cmOf r i)

def Ann.cms : Ann → List (Nat × List Nat)
  | .cm l => l
  | _ => []

/-- A region. -/
def evRegion {ρ : Type} (C : Ctx) (H : Hnd) (ops : List Oper) (draw : Bool) (cm : List (Nat × List Nat)) (st : St) (K : List AV → Heap → List LogE → Option ρ) : Option ρ :=
  cond draw
    (cond (edgesOk ops 0) (cond (dstOk (ancs ops 0 []) ops ops 0) (evOps C H ⟨true, ancs ops 0 [], cmOf cm⟩ ops ops 0 st.fr st.hp [] K) none) none)
    (evOps C H ⟨false, [], fun _ => []⟩ ops ops 0 st.fr st.hp [] K)

def setOuts (fr : List AV) : List (Nat × Tp) → List Dat → List AV
  | [], _ => fr
  | _, [] => fr
  | (i, _) :: r, x :: l => setOuts (setA fr i x.av) r l

def kJoin {δ : Type} (f : St → Option δ) : Ex → St → Option δ
  | .normal, st => f st
  | _, _ => none
def kJoinS {δ ρ : Type} (f : St → Option δ) (K : Ex → St → Option ρ) : Ex → St → Option (δ ⊕ ρ)
  | .normal, st => (f st).map Sum.inl
  | e, st => (K e st).map Sum.inr
def kLoop {δ τ : Type} (f : St → Option δ) (g : St → Option τ) (x : Nat) (again : δ → Option τ) : Ex → St → Option τ
  | .normal, st => (f st).bind again
  | .exit j, st => cond (Nat.beq j x) (g st) none
  | .ret, _ => none
def kLoopS {δ τ ρ : Type} (f : St → Option δ) (g : St → Option τ) (x : Nat) (K : Ex → St → Option ρ) (again : δ → Option (τ ⊕ ρ)) : Ex → St → Option (τ ⊕ ρ)
  | .normal, st => (f st).bind again
  | .exit j, st => cond (Nat.beq j x) ((g st).map Sum.inl) ((K (.exit j) st).map Sum.inr)
  | .ret, st => (K .ret st).map Sum.inr

def evCode (C : Ctx) (H : Hnd) (keep : Nat) : Code → {ρ : Type} → Ann → St → (Ex → St → Option ρ) → Option ρ
  | .skip, _, _, st, K => K .normal st
  | .label _, _, _, st, K => K .normal st
  | .ret, _, _, st, K => K .ret st
  | .exit i, _, _, st, K => K (.exit i) st
  | .region _ ops draw, _, ann, st, K => match ann with
    | .reg ds outs => (evRegion C H ops.toList draw [] st fun fr _ lg => cond (quiet lg) ((outsOf fr outs []).bind (Den.of ds)) none).bind
        fun d => K .normal ⟨setOuts (blankOps ops.toList st.fr) outs (Den.list ds d), st.hp⟩
    | _ => evRegion C H ops.toList draw ann.cms st fun fr h _ => K .normal ⟨fr, h⟩
  | .seq a b, ρ, ann, st, K => match ann with
    | .join sh x y => (evCode C H keep a (ρ := Den sh.ds) x st (kJoin (sh.of keep))).bind fun d => evCode C H keep b y (sh.st (lenL st.fr) d) K
    | .joinS sh x y => (evCode C H keep a (ρ := Den sh.ds ⊕ ρ) x st (kJoinS (sh.of keep) K)).bind fun r => match r with
          | .inl d => evCode C H keep b y (sh.st (lenL st.fr) d) K
          | .inr r => some r
    | _ => evCode C H keep a ann.l st fun e st => match e with
      | .normal => evCode C H keep b ann.r st K
      | e => K e st
  | .cond c a b, _, ann, st, K => match opnd st.fr c with
    | .bool t => cond t (evCode C H keep a ann.l st K) (evCode C H keep b ann.r st K)
    | _ => none
  | .block i c, _, ann, st, K => evCode C H keep c ann.l st fun e st => match e with
    | .exit j => cond (Nat.beq j i) (K .normal st) (K (.exit j) st)
    | e => K e st
  | .loop c, ρ, ann, st, K => match ann with
    | .loop sh fuel x out a => (sh.of keep st).bind fun d =>
        (loopN (σ := Den out.ds) (fun again d => evCode C H keep c a (sh.st (lenL st.fr) d) (kLoop (sh.of keep) (out.of keep) x again)) (fuel d) d).bind fun r => K (.exit x) (out.st (lenL st.fr) r)
    | .loopS sh fuel x out a => (sh.of keep st).bind fun d =>
        (loopN (σ := Den out.ds ⊕ ρ) (fun again d => evCode C H keep c a (sh.st (lenL st.fr) d) (kLoopS (sh.of keep) (out.of keep) x K again)) (fuel d) d).bind fun r => match r with
            | .inl r => K (.exit x) (out.st (lenL st.fr) r)
            | .inr r => some r
    | _ => none
  | _, _, _, _, _ => none

/-- The value that a function gives back, out of its slots. -/
def resA (C : Ctx) (fr : List AV) (h : Nat → Ob) : List ResultVar → Option (List AV)
  | [] => some []
  | .tmp t :: r => match resA C fr h r with
    | some l => some (getA fr t :: l)
    | none => none
  | .cell a t :: r => match getA fr a with
    | .ptr id o => match h id with
      | .box cs => cond (C.ty t).d.isOther none (match partA (C.ty t).d.isAgg (C.ty t).size cs o, resA C fr h r with
        | some v, some l => some (v :: l)
        | _, _ => none)
      | _ => none
    | _ => none

def resV : List AV → AV
  | [a] => a
  | l => .tup l

/-- The data of what a function leaves. -/
def Out.of (o : Out) (keep : Nat) (v : AV) (hp : Heap) : Option (Den o.ds) :=
  match Tp.mt (getH hp) (getOT o.hp) o.res v ⟨idRen keep, [], (lenL hp), [], []⟩ with
  | some m => match OT.mts (getH hp) (getOT o.hp) o.hp 0 m with
    | some m => cond (m.ok (lenL o.hp)) (Den.of o.ds (revL m.ds [])) none
    | none => none
  | none => none

/-- A function's body, from the arguments' data to the results'. -/
def evFn (C : Ctx) (H : Hnd) (fn : Func) (ann : Ann) (S : Spec) (d : Den S.ids) : Option (Den S.out.ds) :=
  match fn.body with
  | some c =>
    match Tp.insts (fun j => j) S.args (Den.list S.ids d) with
    | (args, l) => evCode C H S.keep c ann ⟨catL args (blankA (fn.ntmps - lenL args)), OT.insts (fun j => j) S.ihp l⟩ fun e st =>
      match e with
      | .exit _ => none
      | _ => match resA C st.fr (getH st.hp) fn.results.toList with
        | some l => S.out.of S.keep (resV l) st.hp
        | none => none
  | none => none

def hnd (spec : Nat → List Spec) : Hnd where
  run f args h nid K := callS args h nid K (spec f)

def tab : List (Nat × Spec) → Nat → List Spec
  | [], _ => []
  | (i, s) :: r, n => cond (Nat.beq i n) (s :: tab r n) (tab r n)

end Ev
