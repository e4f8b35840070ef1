/- A part of the proof that for every match and every number, the program's JudgeWatcher answers as the specification's JudgeWatcher does, and leaves its arguments as they were; there is no condition. -/
import GoSem.Dispatch
import Derived.KernelRfl
import Derived.Defers
set_option linter.unusedVariables false
set_option linter.unusedSimpArgs false
namespace Go.Proofs.YtaflceohlijekaaGreat.Ev
inductive Sh where
  | int (k : IntKind) | bool | str | unit | sl (e : Sh) | pair (a b : Sh)
  deriving DecidableEq, Inhabited
@[reducible] def Sh.T : Sh -> Type
  | .int _ => Int | .bool => Bool | .str => ByteArray | .unit => Unit | .sl e => List e.T | .pair a b => a.T × b.T
def Sh.n : Sh -> Nat
  | .unit => 0 | .pair a b => a.n + b.n | _ => 1
def Sh.dflt : (s : Sh) -> s.T
  | .int _ => (0 : Int) | .bool => false | .str => (⟨#[]⟩ : ByteArray) | .unit => () | .sl _ => [] | .pair a b => (a.dflt, b.dflt)
@[reducible] def prod : List Sh -> Sh
  | [] => .unit | [a] => a | a :: b :: t => .pair a (prod (b :: t))
abbrev Path := List (Nat × Nat)
inductive Lf where
  | int (k : IntKind) (x : Int) | bool (b : Bool) | str (s : ByteArray)
  | ext (e : Sh) (xs : List e.T)                          -- a slice that came in: its elements
  | own (k ep : Nat) (p : Path) (e : Sh)                  -- the slice at a path of a unit
  | sub (k ep : Nat) (p : Path) (e : Sh) (lo len : Nat)   -- a part of it
  | nl (e : Sh)                                           -- the nil slice
  | dead
inductive Ptr where
  | var (r off : Nat)
  | elem (k ep : Nat) (p : Path) (e : Sh) (i off : Nat)
  | ext (e : Sh) (x : e.T) (off : Nat)
  | cells (ls : List Lf) (off : Nat)
inductive AV where
  | v (agg : Bool) (ls : List Lf)
  | ptr (p : Ptr)
  | tup (l : List (Bool × List Lf))
  | u
  | no          -- skipped
inductive UE where
  | own (ep : Nat) (e : Sh) (xs : List e.T)
  | gone
structure St where
  sl : List (Nat × AV)
  vs : List (Nat × List Lf)
  us : List (Nat × UE)
def getA {α : Type} : List (Nat × α) -> Nat -> Option α
  | [], _ => none
  | (k, v) :: t, i => bif Nat.beq k i then some v else getA t i
def flat : (s : Sh) -> s.T -> List Lf
  | .int k, x => [.int k x] | .bool, b => [.bool b] | .str, s => [.str s] | .unit, _ => []
  | .sl e, xs => [.ext e xs] | .pair a b, x => flat a x.1 ++ flat b x.2
def leafAt : (s : Sh) -> s.T -> Nat -> Option ((e : Sh) × List e.T)
  | .sl e, xs, o => bif Nat.beq o 0 then some ⟨e, xs⟩ else none
  | .pair a b, x, o => bif Nat.blt o a.n then leafAt a x.1 o else leafAt b x.2 (o - a.n)
  | _, _, _ => none
def setLeaf : (s : Sh) -> s.T -> Nat -> (e : Sh) -> List e.T -> Option s.T
  | .sl e, _, o, e', ys => bif Nat.beq o 0 then (if h : e' = e then some (h ▸ ys) else none) else none
  | .pair a b, x, o, e', ys => bif Nat.blt o a.n
      then (match setLeaf a x.1 o e' ys with | some x1 => some (x1, x.2) | none => none)
      else (match setLeaf b x.2 (o - a.n) e' ys with | some x2 => some (x.1, x2) | none => none)
  | _, _, _, _, _ => none
def castL (e : Sh) (xs : List e.T) (e' : Sh) : Option (List e'.T) :=
  if h : e = e' then some (h ▸ xs) else none
def descend : Path -> (e : Sh) -> List e.T -> (e' : Sh) -> Option (List e'.T)
  | [], e, xs, e' => castL e xs e'
  | (i, off) :: p, e, xs, e' => match leafAt e (xs.getD i e.dflt) off with
    | some ⟨e1, ys⟩ => descend p e1 ys e'
    | none => none
def updAt : Path -> (e : Sh) -> List e.T -> (e' : Sh) -> List e'.T -> Option (List e.T)
  | [], e, _, e', ys => castL e' ys e
  | (i, off) :: p, e, xs, e', ys => match leafAt e (xs.getD i e.dflt) off with
    | some ⟨e1, zs⟩ => match updAt p e1 zs e' ys with
      | some zs' => match setLeaf e (xs.getD i e.dflt) off e1 zs' with
        | some x' => some (xs.set i x')
        | none => none
      | none => none
    | none => none
def content (us : List (Nat × UE)) (k ep : Nat) (p : Path) (e' : Sh) : Option (List e'.T) :=
  match getA us k with
  | some (.own ep0 e xs) => match p with
    | [] => castL e xs e'
    | a :: t => bif Nat.beq ep ep0 then descend (a :: t) e xs e' else none
  | _ => none
def matLf (us : List (Nat × UE)) : Lf -> (s : Sh) -> Option s.T
  | .int k x, .int k' => if k = k' then some x else none
  | .bool b, .bool => some b
  | .str s, .str => some s
  | .ext e xs, .sl e' => castL e xs e'
  | .own k ep p _, .sl e' => content us k ep p e'
  | .sub k ep p _ lo len, .sl e' => match content us k ep p e' with | some xs => some ((xs.drop lo).take len) | none => none
  | .nl _, .sl _ => some []
  | _, _ => none
def unflat (us : List (Nat × UE)) : (s : Sh) -> List Lf -> Option (s.T × List Lf)
  | .unit, l => some ((), l)
  | .pair a b, l => match unflat us a l with
    | some (x, l1) => match unflat us b l1 with
      | some (y, l2) => some ((x, y), l2)
      | none => none
    | none => none
  | .int k, l => match l with | h :: t => (match matLf us h (.int k) with | some x => some (x, t) | none => none) | [] => none
  | .bool, l => match l with | h :: t => (match matLf us h .bool with | some x => some (x, t) | none => none) | [] => none
  | .str, l => match l with | h :: t => (match matLf us h .str with | some x => some (x, t) | none => none) | [] => none
  | .sl e, l => match l with | h :: t => (match matLf us h (.sl e) with | some x => some (x, t) | none => none) | [] => none
inductive TyD where
  | scalar | struct (fs : List (Nat × Nat)) | slice (e : Nat) | array (n e : Nat) | ptr (e : Nat)
structure TyI where
  sh : Sh
  agg : Bool
  d : TyD
  lim : Nat        -- how many of them may lie in one slice
inductive Par where
  | val (g : Bool) (s : Sh) | ro (s : Sh) | mut (s : Sh) | muts (e : Sh) | fld (s : Sh) (o : Nat) (e : Sh)
@[reducible] def Par.sh : Par -> Sh | .val _ s => s | .ro s => s | .mut s => s | .muts e => .sl e | .fld _ _ e => .sl e
@[reducible] def Par.out : Par -> List Sh | .mut s => [s] | .muts e => [.sl e] | .fld _ _ e => [.sl e] | _ => []
structure Sig where
  ps : List Par
  rs : List (Bool × Sh)
@[reducible] def outsOf : List Par -> List Sh | [] => [] | p :: t => p.out ++ outsOf t
@[reducible] def shsOf : List Par -> List Sh | [] => [] | p :: t => p.sh :: shsOf t
@[reducible] def resOf : List (Bool × Sh) -> List Sh | [] => [] | p :: t => p.2 :: resOf t
@[reducible] def Sig.A (g : Sig) : Sh := prod (shsOf g.ps)
@[reducible] def Sig.R (g : Sig) : Sh := prod (resOf g.rs ++ outsOf g.ps)
inductive KL where
  | int (k : IntKind) | bool | str | ext (e : Sh) | own (k : Nat) (e : Sh) | sub (k : Nat) (e : Sh) | dead
inductive KA where
  | v (g : Bool) (ls : List KL) | var (r o : Nat) | ext (e : Sh) (o : Nat) | u
structure Sk where
  sl : List (Nat × KA)
  vs : List (Nat × List KL)
  us : List (Nat × Sh)
structure Env where
  ty : Nat -> TyI
  sig : Nat -> Sig
  sk : Nat -> Nat -> Sk
abbrev Env.Call (E : Env) := (f : Nat) -> (E.sig f).A.T -> Option (E.sig f).R.T
structure Eff where
  v : AV
  nv : List (Nat × List Lf)
  nu : List (Nat × UE)
def Eff.apply (e : Eff) (d : Option Nat) (st : St) : St :=
  { sl := (match d with | some d => (d, e.v) :: st.sl | none => st.sl), vs := e.nv ++ st.vs, us := e.nu ++ st.us }
inductive Plan (E : Env) where
  | alts (l : List (Bool × Eff))
  | call (f : Nat) (x : (E.sig f).A.T) (mk : (E.sig f).R.T -> Option Eff)
abbrev now {E : Env} (v : AV) : Option (Plan E) := some (.alts [(true, ⟨v, [], []⟩)])
def operand (st : St) : Operand -> Option AV
  | .tmp t => getA st.sl t
  | .const (.int k n) => some (.v false [.int k n])
  | .const (.bool b) => some (.v false [.bool b])
  | .const (.string s) => some (.v false [.str s])
  | _ => none
def operandT (E : Env) (st : St) (t : Nat) : Operand -> Option AV
  | .const (.slice none 0 0) => match (E.ty t).sh with | .sl e => some (.v false [.nl e]) | _ => none
  | x => operand st x
def flatP (mk : Nat -> Sh -> Lf) : (s : Sh) -> s.T -> (off : Nat) -> List Lf
  | .int k, x, _ => [.int k x] | .bool, b, _ => [.bool b] | .str, s, _ => [.str s] | .unit, _, _ => []
  | .sl e, _, off => [mk off e] | .pair a b, x, off => flatP mk a x.1 off ++ flatP mk b x.2 (off + a.n)
def epOf (us : List (Nat × UE)) (k : Nat) : Nat := match getA us k with | some (.own ep _ _) => ep | _ => 0
def readP (st : St) (n : Nat) : Ptr -> Option (List Lf)
  | .var r off => match getA st.vs r with
    | some l => if off + n <= l.length then some ((l.drop off).take n) else none
    | none => none
  | .elem k ep p e i off => match content st.us k ep p e with
    | some xs => if off + n <= e.n then some (((flatP (fun o e' => .own k (epOf st.us k) (p ++ [(i, o)]) e') e (xs.getD i e.dflt) 0).drop off).take n) else none
    | none => none
  | .ext e x off => if off + n <= e.n then some (((flat e x).drop off).take n) else none
  | .cells ls off => if off + n <= ls.length then some ((ls.drop off).take n) else none
def ptrOk (st : St) : Ptr -> Bool
  | .elem k ep p e _ _ => (content st.us k ep p e).isSome
  | _ => true
def setRange : Nat -> List Lf -> List Lf -> List Lf
  | _, l, [] => l
  | 0, _ :: t, v :: vs => v :: setRange 0 t vs
  | off + 1, h :: t, vs => h :: setRange off t vs
  | _, [], _ => []
def ownLeaves : (s : Sh) -> s.T -> Nat -> List Lf × List (Nat × UE) × Nat
  | .int k, x, nx => ([.int k x], [], nx) | .bool, b, nx => ([.bool b], [], nx) | .str, s, nx => ([.str s], [], nx) | .unit, _, nx => ([], [], nx)
  | .sl e, xs, nx => ([.own nx 0 [] e], [(nx, .own 0 e xs)], nx + 1)
  | .pair a b, x, nx =>
    let r1 := ownLeaves a x.1 nx
    let r2 := ownLeaves b x.2 r1.2.2
    (r1.1 ++ r2.1, r1.2.1 ++ r2.2.1, r2.2.2)
def zeroLeaves : Sh -> List Lf
  | .int k => [.int k 0] | .bool => [.bool false] | .str => [.str ⟨#[]⟩] | .unit => [] | .sl e => [.nl e] | .pair a b => zeroLeaves a ++ zeroLeaves b
def giveLf (us : List (Nat × UE)) : Lf -> (s : Sh) -> Option (s.T × List (Nat × UE))
  | .int k x, .int k' => if k = k' then some (x, []) else none
  | .bool b, .bool => some (b, [])
  | .str s, .str => some (s, [])
  | .nl _, .sl _ => some ([], [])
  | .own k _ [] _, .sl e' => match getA us k with
    | some (.own _ e xs) => if h : e = e' then some (h ▸ xs, [(k, .gone)]) else none
    | _ => none
  | .sub k _ [] _ lo len, .sl e' => match getA us k with
    | some (.own _ e xs) => if h : e = e' then some (h ▸ ((xs.drop lo).take len), [(k, .gone)]) else none
    | _ => none
  | _, _ => none
def give (us : List (Nat × UE)) : (s : Sh) -> List Lf -> Option (s.T × List (Nat × UE) × List Lf)
  | .unit, l => some ((), [], l)
  | .pair a b, l => match give us a l with
    | some (x, u1, l1) => match give (u1 ++ us) b l1 with
      | some (y, u2, l2) => some ((x, y), u2 ++ u1, l2)
      | none => none
    | none => none
  | .int k, l => match l with | h :: t => (match giveLf us h (.int k) with | some (x, u) => some (x, u, t) | none => none) | [] => none
  | .bool, l => match l with | h :: t => (match giveLf us h .bool with | some (x, u) => some (x, u, t) | none => none) | [] => none
  | .str, l => match l with | h :: t => (match giveLf us h .str with | some (x, u) => some (x, u, t) | none => none) | [] => none
  | .sl e, l => match l with | h :: t => (match giveLf us h (.sl e) with | some (x, u) => some (x, u, t) | none => none) | [] => none
def subAt : (e : Sh) -> e.T -> Nat -> (s : Sh) -> Option s.T
  | e, x, 0, s => if h : e = s then some (h ▸ x) else match e, x with
    | .pair a _, x => subAt a x.1 0 s
    | _, _ => none
  | .pair a b, x, o + 1, s => bif Nat.blt (o + 1) a.n then subAt a x.1 (o + 1) s else subAt b x.2 (o + 1 - a.n) s
  | _, _, _, _ => none
def setSub : (e : Sh) -> e.T -> Nat -> (s : Sh) -> s.T -> Option e.T
  | e, x, 0, s, y => if h : s = e then some (h ▸ y) else match e, x with
    | .pair a _, x => match setSub a x.1 0 s y with | some x1 => some (x1, x.2) | none => none
    | _, _ => none
  | .pair a b, x, o + 1, s, y => bif Nat.blt (o + 1) a.n
      then (match setSub a x.1 (o + 1) s y with | some x1 => some (x1, x.2) | none => none)
      else (match setSub b x.2 (o + 1 - a.n) s y with | some x2 => some (x.1, x2) | none => none)
  | _, _, _, _, _ => none
def Sh.deep : Sh -> Bool
  | .sl _ => true | .pair a b => a.deep || b.deep | _ => false
def bits (k : IntKind) (op : BitVec k.bits -> BitVec k.bits -> BitVec k.bits) (x y : Int) : Int :=
  k.wrap (op (BitVec.ofInt k.bits x) (BitVec.ofInt k.bits y)).toNat
def intOp (op : BinOp) (k : IntKind) (x y : Int) : Option (Bool × Lf) :=
  match op with
  | .add => some (true, .int k (k.wrap (x + y))) | .sub => some (true, .int k (k.wrap (x - y))) | .mul => some (true, .int k (k.wrap (x * y)))
  | .quo => some (!decide (y = 0), .int k (k.wrap (x.tdiv y)))
  | .rem => some (!decide (y = 0), .int k (x.tmod y))
  | .and => some (true, .int k (bits k (· &&& ·) x y)) | .or => some (true, .int k (bits k (· ||| ·) x y)) | .xor => some (true, .int k (bits k (· ^^^ ·) x y))
  | .eql => some (true, .bool (x == y)) | .neq => some (true, .bool (x != y)) | .lss => some (true, .bool (decide (x < y))) | .leq => some (true, .bool (decide (x <= y)))
  | .gtr => some (true, .bool (decide (x > y))) | .geq => some (true, .bool (decide (x >= y)))
  | _ => none
def shiftOp (op : BinOp) (k : IntKind) (x y : Int) : Option (Bool × Lf) :=
  match op with
  | .shl => some (!decide (y < 0), .int k (k.wrap (x * 2 ^ (min y.toNat k.bits))))
  | .shr => some (!decide (y < 0), .int k (x.fdiv (2 ^ (min y.toNat k.bits))))
  | _ => none
def strMax : Nat := 1099511627776
def strOp (op : BinOp) (x y : ByteArray) : Option (Bool × Lf) :=
  match op with
  | .add => some (decide (x.size + y.size <= strMax), .str (x ++ y))
  | .eql => some (true, .bool (x.toList == y.toList)) | .neq => some (true, .bool !(x.toList == y.toList))
  | _ => none
def eqCells : List Lf -> List Lf -> Option Bool
  | [], [] => some true
  | .int k x :: t, .int k' y :: t' => if k = k' then (match eqCells t t' with | some b => some (x == y && b) | none => none) else none
  | _, _ => none
def binop (op : BinOp) (ti : TyI) : AV -> AV -> Option (Bool × Lf)
  | .v false [.int k x], .v false [.int k' y] => match op with
    | .shl => shiftOp op k x y | .shr => shiftOp op k x y
    | _ => if k = k' then intOp op k x y else none
  | .v false [.bool a], .v false [.bool b] => match op, ti.sh, ti.agg with | .eql, .bool, false => some (true, .bool (a == b)) | .neq, .bool, false => some (true, .bool (!(a == b))) | _, _, _ => none
  | .v false [.str a], .v false [.str b] => strOp op a b
  | .v true xs, .v true ys => bif Nat.beq xs.length ti.sh.n && ti.agg then (match op, eqCells xs ys with
    | .eql, some b => some (true, .bool b)
    | .neq, some b => some (true, .bool (!b))
    | _, _ => none) else none
  | _, _ => none
def TyI.isSlice (ti : TyI) : Bool := match ti.d with | .slice _ => true | _ => false
def TyI.isStr (ti : TyI) : Bool := match ti.d, ti.sh with | .scalar, .str => true | _, _ => false
def lenOf (st : St) (ti : TyI) : AV -> Option Nat
  | .v false [.str s] => bif ti.isStr then some s.size else none
  | .v false [.ext _ xs] => bif ti.isSlice then some xs.length else none
  | .v false [.own k ep p e] => bif ti.isSlice then (match content st.us k ep p e with | some xs => some xs.length | none => none) else none
  | .v false [.sub k ep p e _ len] => bif ti.isSlice then (match content st.us k ep p e with | some _ => some len | none => none) else none
  | .v false [.nl _] => bif ti.isSlice then some 0 else none
  | _ => none
def fieldOff (t : TyI) (i : Nat) : Option Nat := match t.d with
  | .struct fs => match fs[i]? with | some (o, _) => some o | none => none
  | _ => none
def addOff : Ptr -> Nat -> Ptr
  | .var r o, n => .var r (o + n) | .elem k ep p e i o, n => .elem k ep p e i (o + n) | .ext e x o, n => .ext e x (o + n) | .cells ls o, n => .cells ls (o + n)
def bytesL (s : ByteArray) : List Int := s.data.toList.map fun b => (b.toNat : Int)
def strOf (xs : List Int) : ByteArray := ⟨(xs.map fun n => UInt8.ofNat n.toNat).toArray⟩
def arrAlts (p : Ptr) (j : Int) (sz : Nat) : Nat -> Nat -> List (Bool × Eff)
  | 0, _ => []
  | n + 1, i => (decide (j = (i : Int)), ⟨.ptr (addOff p (i * sz)), [], []⟩) :: arrAlts p j sz n (i + 1)
end Go.Proofs.YtaflceohlijekaaGreat.Ev
