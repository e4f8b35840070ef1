/- A part of the proof that for every match and every number, the program's JudgeWatcher answers as the specification's JudgeWatcher does, and leaves its arguments as they were; there is no condition. -/
import Derived.Test.YtaflceohlijekaaGreatEvA
set_option linter.unusedVariables false
set_option linter.unusedSimpArgs false
namespace Go.Proofs.YtaflceohlijekaaGreat.Ev
variable (E : Env)
def freshU (us : List (Nat × UE)) (new : List (Nat × UE)) : Bool := new.all fun q => (getA us q.1).isNone
def preLoad (st : St) (t : Nat) (x : Operand) : Option (Plan E) :=
  match operand st x with
  | some (.ptr p) => match readP st (E.ty t).sh.n p with
    | some ls => now (.v (E.ty t).agg ls)
    | none => none
  | _ => none
def atUnit (st : St) (k ep : Nat) (p : Path) (e : Sh) : Option (Nat × (e0 : Sh) × List e0.T × List e.T) :=
  match getA st.us k with
  | some (.own ep0 e0 xs0) => match p with
    | [] => match castL e0 xs0 e with | some xs => some (ep0, ⟨e0, xs0, xs⟩) | none => none
    | a :: t => bif Nat.beq ep ep0 then (match descend (a :: t) e0 xs0 e with | some xs => some (ep0, ⟨e0, xs0, xs⟩) | none => none) else none
  | _ => none
def putElem (k ep0 : Nat) (p : Path) (e0 : Sh) (xs0 : List e0.T) (e : Sh) (xs : List e.T) (i off : Nat) (s : Sh) (y : s.T) : Option (Nat × UE) :=
  match setSub e (xs.getD i e.dflt) off s y with
  | some x1 => match updAt p e0 xs0 e (xs.set i x1) with
    | some xs1 => some (k, .own (ep0 + 1) e0 xs1)
    | none => none
  | none => none
def preStore (st : St) (t : Nat) (a x : Operand) : Option (Plan E) :=
  match operand st a, operandT E st t x with
  | some (.ptr p), some (.v _ ls) =>
    if ls.length = (E.ty t).sh.n then
      match p with
      | .var r off => match getA st.vs r with
        | some cs => if off + ls.length <= cs.length then some (.alts [(true, ⟨.u, [(r, setRange off cs ls)], []⟩)]) else none
        | none => none
      | .elem k ep p e i off => match atUnit st k ep p e with
        | some (ep0, ⟨e0, xs0, xs⟩) => match give ((k, .gone) :: st.us) (E.ty t).sh ls with
          | some (y, nu, []) => match putElem k ep0 p e0 xs0 e xs i off (E.ty t).sh y with
            | some en => some (.alts [(true, ⟨.u, [], en :: nu⟩)])
            | none => none
          | _ => none
        | none => none
      | _ => none
    else none
  | _, _ => none
def preIndexAddr (st : St) (t : Nat) (x i : Operand) : Option (Plan E) :=
  match (E.ty t).d, operand st x, operand st i with
  | .slice te, some (.v false [.ext e xs]), some (.v false [.int _ j]) => if e.n = (E.ty te).sh.n then
      some (.alts [(decide (0 <= j) && decide (j < (xs.length : Int)), ⟨.ptr (.ext e (xs.getD j.toNat e.dflt) 0), [], []⟩)]) else none
  | .slice te, some (.v false [.own k ep p e]), some (.v false [.int _ j]) => if e.n = (E.ty te).sh.n then (match content st.us k ep p e with
    | some xs => some (.alts [(decide (0 <= j) && decide (j < (xs.length : Int)), ⟨.ptr (.elem k ep p e j.toNat 0), [], []⟩)])
    | none => none) else none
  | .slice te, some (.v false [.sub k ep p e lo len]), some (.v false [.int _ j]) => if e.n = (E.ty te).sh.n then (match content st.us k ep p e with
    | some _ => some (.alts [(decide (0 <= j) && decide (j < (len : Int)), ⟨.ptr (.elem k ep p e (lo + j.toNat) 0), [], []⟩)])
    | none => none) else none
  | .array n e, some (.ptr (.var r o)), some (.v false [.int _ j]) => if 1 < n then some (.alts (arrAlts (.var r o) j (E.ty e).sh.n n 0)) else none
  | _, _, _ => none
def bytesIdx (s : ByteArray) (j : Int) : Int := if h : j.toNat < s.size then ((s[j.toNat]'h).toNat : Int) else 0
def preIndex (st : St) (x i : Operand) : Option (Plan E) :=
  match operand st x, operand st i with
  | some (.v false [.str s]), some (.v false [.int _ j]) =>
    some (.alts [(decide (0 <= j) && decide (j < (s.size : Int)), ⟨.v false [.int .u8 (bytesIdx s j)], [], []⟩)])
  | _, _ => none
def cutB (st : St) (n : Nat) (lo hi : Option Operand) : Option (Int × Int) :=
  match (match lo with | none => some (0 : Int) | some x => match operand st x with | some (.v false [.int _ j]) => some j | _ => none),
        (match hi with | none => some (n : Int) | some x => match operand st x with | some (.v false [.int _ j]) => some j | _ => none) with
  | some l, some h => some (l, h)
  | _, _ => none
def preSlice (st : St) (t : Nat) (x : Operand) (lo hi mx : Option Operand) : Option (Plan E) :=
  match (match mx with | none => some (E.ty t).d | some _ => none), operand st x with
  | some .scalar, some (.v false [.str s]) => match cutB st s.size lo hi with
    | some (l, h) => some (.alts [(decide (0 <= l) && decide (l <= h) && decide (h <= (s.size : Int)), ⟨.v false [.str (s.extract l.toNat h.toNat)], [], []⟩)])
    | none => none
  | some (.slice te), some (.v false [.ext e xs]) => if e.n = (E.ty te).sh.n then (match cutB st xs.length lo hi with
    | some (l, h) => some (.alts [(decide (0 <= l) && decide (l <= h) && decide (h <= (xs.length : Int)), ⟨.v false [.ext e ((xs.drop l.toNat).take (h.toNat - l.toNat))], [], []⟩)])
    | none => none) else none
  | some (.slice te), some (.v false [.own k ep p e]) => if e.n = (E.ty te).sh.n then (match content st.us k ep p e with
    | some xs => match cutB st xs.length lo hi with
      | some (l, h) => some (.alts [(decide (0 <= l) && decide (l <= h) && decide (h <= (xs.length : Int)), ⟨.v false [.sub k ep p e l.toNat (h.toNat - l.toNat)], [], []⟩)])
      | none => none
    | none => none) else none
  | some (.slice te), some (.v false [.sub k ep p e lo0 len0]) => if e.n = (E.ty te).sh.n then (match content st.us k ep p e with
    | some _ => match cutB st len0 lo hi with
      | some (l, h) => some (.alts [(decide (0 <= l) && decide (l <= h) && decide (h <= (len0 : Int)), ⟨.v false [.sub k ep p e (lo0 + l.toNat) (h.toNat - l.toNat)], [], []⟩)])
      | none => none
    | none => none) else none
  | _, _ => none
def preAppend (st : St) (d : Nat) (t : Nat) (x y : Operand) : Option (Plan E) :=
  match (E.ty t).d, operandT E st t x, operandT E st t y, getA st.us (64 * d) with
  | .slice te, some (.v false [a]), some (.v false [b]), none =>
    let e := (E.ty te).sh
    match giveLf st.us a (.sl e) with
    | some (xs, u1) => match e.deep with
      | false => match matLf (u1 ++ st.us) b (.sl e) with
        | some ys => some (.alts [(decide (xs.length + ys.length <= (E.ty te).lim), ⟨.v false [.own (64 * d) 0 [] e], [], (64 * d, .own 0 e (xs ++ ys)) :: u1⟩)])
        | none => none
      | true => match giveLf (u1 ++ st.us) b (.sl e) with
        | some (ys, u2) => some (.alts [(decide (xs.length + ys.length <= (E.ty te).lim), ⟨.v false [.own (64 * d) 0 [] e], [], (64 * d, .own 0 e (xs ++ ys)) :: (u2 ++ u1)⟩)])
        | none => none
    | none => none
  | _, _, _, _ => none
def buildLs (st : St) : List (Nat × Nat) -> List (Nat × Operand) -> Nat -> (shs : List TyI) -> Option (List Lf)
  | [], _, _, _ => some []
  | (_, t) :: fs, parts, i, tys => match buildLs st fs parts (i + 1) tys with
    | none => none
    | some r => match parts.find? (fun q => Nat.beq q.1 i) with
      | none => some (zeroLeaves ((E.ty t).sh) ++ r)
      | some (_, x) => match operandT E st t x with
        | some (.v _ ls) => if ls.length = (E.ty t).sh.n then some (ls ++ r) else none
        | _ => none
def nodupB : List Nat -> Bool
  | [] => true
  | h :: t => !(t.any (Nat.beq h)) && nodupB t
def preBuild (st : St) (t : Nat) (parts : List (Nat × Operand)) : Option (Plan E) :=
  match (E.ty t).d with
  | .struct fs => bif parts.all (fun q => Nat.blt q.1 fs.length) && nodupB (parts.map (·.1)) then (match buildLs E st fs parts 0 [] with
    | some ls => now (.v true ls)
    | none => none) else none
  | _ => none
def litXs (us : List (Nat × UE)) (st : St) (e : Sh) (te : Nat) : List (Nat × Operand) -> Nat -> Option (List e.T × List (Nat × UE))
  | [], _ => some ([], [])
  | (j, x) :: t, i => if j = i then match operandT E st te x with
      | some (.v _ ls) => match give us e ls with
        | some (v, u1, []) => match litXs (u1 ++ us) st e te t (i + 1) with
          | some (r, u2) => some (v :: r, u2 ++ u1)
          | none => none
        | _ => none
      | _ => none
    else none
def preBuildSlice (st : St) (d t n : Nat) (parts : List (Nat × Operand)) : Option (Plan E) :=
  match (E.ty t).d with
  | .slice te => if parts.length = n /\ 0 < (E.ty te).sh.n /\ n * (E.ty te).sh.n <= 16777216 then
      (match litXs E st.us st (E.ty te).sh te parts 0 with
      | some (xs, u1) => (match getA st.us (64 * d) with | none => some (.alts [(true, ⟨.v false [.own (64 * d) 0 [] (E.ty te).sh], [], (64 * d, .own 0 (E.ty te).sh xs) :: u1⟩)]) | some _ => none)
      | none => none) else none
  | _ => none
def preMakeSlice (st : St) (d t : Nat) (len cap : Operand) : Option (Plan E) :=
  match (E.ty t).d, operand st len, operand st cap, getA st.us (64 * d) with
  | .slice te, some (.v false [.int .i64 l]), some (.v false [.int .i64 c]), none =>
    some (.alts [(decide (0 <= l) && decide (l <= c) && decide (c <= ((E.ty te).lim : Int)), ⟨.v false [.own (64 * d) 0 [] (E.ty te).sh], [], [(64 * d, .own 0 (E.ty te).sh (List.replicate l.toNat (E.ty te).sh.dflt))]⟩)])
  | _, _, _, _ => none
def preConvert (st : St) (d src dst : Nat) (x : Operand) : Option (Plan E) :=
  match (E.ty dst).sh, operandT E st src x with
  | .int k, some (.v false [.int _ n]) => now (.v false [.int k (k.wrap n)])
  | .sl (.int .u8), some (.v false [.str s]) => (match getA st.us (64 * d) with | none => some (.alts [(true, ⟨.v false [.own (64 * d) 0 [] (.int .u8)], [], [(64 * d, .own 0 (.int .u8) (bytesL s))]⟩)]) | some _ => none)
  | .str, some (.v false [l]) => match matLf st.us l (.sl (.int .u8)) with
    | some xs => now (.v false [.str (strOf xs)])
    | none => none
  | _, _ => none
def ownify : List Lf -> Nat -> List Lf × List (Nat × UE)
  | [], _ => ([], [])
  | .ext e xs :: t, k => let r := ownify t (k + 1); (.own k 0 [] e :: r.1, (k, .own 0 e xs) :: r.2)
  | l :: t, k => let r := ownify t k; (l :: r.1, r.2)
def splitRs : List (Bool × Sh) -> List Lf -> List (Bool × List Lf)
  | [], _ => []
  | (g, s) :: t, l => (g, l.take s.n) :: splitRs t (l.drop s.n)
def resAV (rs : List (Bool × Sh)) (ls : List Lf) : AV :=
  match rs with
  | [(g, _)] => .v g ls
  | rs => .tup (splitRs rs ls)
structure Lent where
  ls : List Lf
  lock : List (Nat × UE)
  lockV : List (Nat × List Lf)
  back : List Lf -> Nat -> Option (List (Nat × List Lf) × List (Nat × UE))
def lend (st : St) : Par -> Option AV -> Option Lent
  | .mut s, some (.ptr (.var r off)) => match getA st.vs r with
    | some cs => if off + s.n <= cs.length then
        (match give st.us s ((cs.drop off).take s.n) with
        | some (x, nu, []) => some ⟨flat s x, nu, [(r, [])], fun out k => let o := ownify out k; match freshU st.us o.2 with | true => if out.length = s.n then some ([(r, setRange off cs o.1)], o.2) else none | false => none⟩
        | _ => none) else none
    | none => none
  | .mut s, some (.ptr (.elem k ep p e i off)) => match atUnit st k ep p e with
    | some (ep0, ⟨e0, xs0, xs⟩) => match subAt e (xs.getD i e.dflt) off s with
      | some x => some ⟨flat s x, [(k, .gone)], [], fun out _ => match unflat [] s out with
        | some (y, []) => match putElem k ep0 p e0 xs0 e xs i off s y with
          | some en => some ([], [en])
          | none => none
        | _ => none⟩
      | none => none
    | none => none
  | .muts e, some (.v false [.own k ep p _]) => match atUnit st k ep p e with
    | some (ep0, ⟨e0, xs0, xs⟩) => some ⟨[.ext e xs], [(k, .gone)], [], fun out _ => match unflat [] (.sl e) out with
      | some (ys, []) => match updAt p e0 xs0 e ys with
        | some xs1 => some ([], [(k, .own (ep0 + 1) e0 xs1)])
        | none => none
      | _ => none⟩
    | none => none
  | .fld s o e, some (.ptr (.var r off)) => match getA st.vs r with
    | some cs => if off + s.n <= cs.length /\ o < s.n then
        (match cs[off + o]? with
        | some (.own k ep p _) => match atUnit st k ep p e with
          | some (ep0, ⟨e0, xs0, xs⟩) => some ⟨[.ext e xs], [(k, .gone)], [], fun out _ => match unflat [] (.sl e) out with
            | some (ys, []) => match updAt p e0 xs0 e ys with
              | some xs1 => some ([], [(k, .own (ep0 + 1) e0 xs1)])
              | none => none
            | _ => none⟩
          | none => none
        | _ => none) else none
    | none => none
  | .muts e, some (.v false [.nl _]) => some ⟨[.ext e []], [], [], fun _ _ => some ([], [])⟩
  | _, _ => none
def lentOf (st : St) : List Par -> List (Option AV) -> Option (Option Lent)
  | [], _ => some none
  | .val _ _ :: ps, _ :: as => lentOf st ps as
  | .ro _ :: ps, _ :: as => lentOf st ps as
  | .mut s :: _, a :: _ => match lend st (.mut s) a with | some l => some (some l) | none => none
  | .muts e :: _, a :: _ => match lend st (.muts e) a with | some l => some (some l) | none => none
  | .fld s o e :: _, a :: _ => match lend st (.fld s o e) a with | some l => some (some l) | none => none
  | _ :: _, [] => none
def callArgs (st : St) (lent : List Lf) : List Par -> List (Option AV) -> Option (List Lf)
  | [], [] => some []
  | .val g s :: ps, some (.v g' ls) :: as => if g = g' /\ ls.length = s.n then
      (match callArgs st lent ps as with | some r => some (ls ++ r) | none => none) else none
  | .ro s :: ps, some (.ptr p) :: as => match readP st s.n p with
    | some ls => if ls.length = s.n then (match callArgs st lent ps as with | some r => some (ls ++ r) | none => none) else none
    | none => none
  | .mut _ :: ps, _ :: as => match callArgs st lent ps as with | some r => some (lent ++ r) | none => none
  | .muts _ :: ps, _ :: as => match callArgs st lent ps as with | some r => some (lent ++ r) | none => none
  | .fld _ _ _ :: ps, _ :: as => match callArgs st lent ps as with | some r => some (lent ++ r) | none => none
  | _, _ => none
def Par.isMut : Par -> Bool | .mut _ => true | .muts _ => true | .fld _ _ _ => true | _ => false
def oneMut : List Par -> Bool
  | [] => true
  | p :: t => match p.isMut with | true => !t.any Par.isMut | false => oneMut t
def argAV (E : Env) (st : St) : List Operand -> List Nat -> List (Option AV)
  | x :: xs, t :: ts => operandT E st t x :: argAV E st xs ts
  | _, _ => []
def nRes : List (Bool × Sh) -> Nat
  | [] => 0 | p :: t => p.2.n + nRes t
def preCall (st : St) (d f : Nat) (args : List Operand) (ts : List Nat) : Option (Plan E) :=
  match oneMut (E.sig f).ps, lentOf st (E.sig f).ps (argAV E st args ts) with
  | true, some lent =>
    let lock := match lent with | some l => l.lock | none => []
    let lockV := match lent with | some l => l.lockV | none => []
    let lls := match lent with | some l => l.ls | none => []
    match callArgs { sl := st.sl, vs := lockV ++ st.vs, us := lock ++ st.us } lls (E.sig f).ps (argAV E st args ts) with
    | some ls => match unflat (lock ++ st.us) (E.sig f).A ls with
      | some (x, []) => some (.call f x fun r =>
        let all := flat (E.sig f).R r
        let o := ownify (all.take (nRes (E.sig f).rs)) (64 * d)
        match freshU st.us o.2, lent with
        | true, none => some ⟨resAV (E.sig f).rs o.1, [], o.2⟩
        | true, some l => match l.back (all.drop (nRes (E.sig f).rs)) (64 * d + 32) with
          | some (nv, nu) => bif freshU o.2 nu then some ⟨resAV (E.sig f).rs o.1, nv, nu ++ (o.2 ++ lock)⟩ else none
          | none => none
        | false, _ => none)
      | _ => none
    | none => none
  | _, _ => none
def preMinMax (st : St) (mx : Bool) : List Operand -> Option (Plan E)
  | [x, y] => match operand st x, operand st y with
    | some (.v false [.int k a]), some (.v false [.int k' b]) => if k = k' then now (.v false [.int k (match mx with | true => if a < b then b else a | false => if b < a then b else a)]) else none
    | _, _ => none
  | _ => none
def preCopy (st : St) (te : Nat) (x y : Operand) : Option (Plan E) :=
  match operand st x, operand st y with
  | some (.v false [.own k _ [] e]), some (.v false [b]) => match getA st.us k with
    | some (.own ep e' xs) => if e' = e /\ e'.deep = false /\ e'.n = (E.ty te).sh.n then
        (match matLf st.us b (.sl e') with
        | some ys => some (.alts [(true, ⟨.v false [.int .i64 ((min ys.length xs.length : Nat) : Int)], [], [(k, .own (ep + 1) e' (ys.take xs.length ++ xs.drop ys.length))]⟩)])
        | none => none) else none
    | _ => none
  | _, _ => none
def preMove (st : St) (t : Nat) (x : Operand) : Option (Plan E) := match operandT E st t x with | some v => now v | none => none
def pre (o : Oper) (st : St) : Option (Plan E) :=
  match o.op with
  | .move x => preMove E st o.type x
  | .assign x => preMove E st o.type x
  | .pick c a b => match operand st c with
    | some (.v false [.bool true]) => match operand st a with | some v => now v | none => none
    | some (.v false [.bool false]) => match operand st b with | some v => now v | none => none
    | _ => none
  | .alloc t => match o.dst with
    | some d => match getA st.vs d with
      | none => some (.alts [(true, ⟨.ptr (.var d 0), [(d, zeroLeaves (E.ty t).sh)], []⟩)])
      | some _ => none
    | none => none
  | .box t x => match operand st x, o.dst with
    | some (.v _ ls), some d => match getA st.vs d with
      | none => if ls.length = (E.ty t).sh.n then some (.alts [(true, ⟨.ptr (.var d 0), [(d, ls)], []⟩)]) else none
      | some _ => none
    | _, _ => none
  | .nilCheck x => match operand st x with | some (.ptr p) => (match ptrOk st p with | true => now (.ptr p) | false => none) | _ => none
  | .fieldAddr t x i => match operand st x, fieldOff (E.ty t) i with
    | some (.ptr p), some off => (match ptrOk st p with | true => now (.ptr (addOff p off)) | false => none)
    | _, _ => none
  | .load t x => preLoad E st t x
  | .store t a x => preStore E st t a x
  | .binOp op t x y _ => match operand st x, operand st y with
    | some a, some b => match binop op (E.ty t) a b with | some (c, l) => some (.alts [(c, ⟨.v false [l], [], []⟩)]) | none => none
    | _, _ => none
  | .unOp op _ x => match op, operand st x with
    | .not, some (.v false [.bool b]) => now (.v false [.bool (!b)])
    | .neg, some (.v false [.int k n]) => now (.v false [.int k (k.wrap (0 - n))])
    | _, _ => none
  | .indexAddr t x i => preIndexAddr E st t x i
  | .index _ x i => preIndex E st x i
  | .slice t x l h m => preSlice E st t x l h m
  | .build t ps => preBuild E st t ps.toList
  | .buildSlice t n ps => match o.dst with | some d => preBuildSlice E st d t n ps.toList | none => none
  | .makeSlice t l c => match o.dst with | some d => preMakeSlice E st d t l c | none => none
  | .convert s t x => match o.dst with | some d => preConvert E st d s t x | none => none
  | .extract x i => match operand st x with
    | some (.tup l) => match l[i]? with | some (g, ls) => now (.v g ls) | none => none
    | _ => none
  | .call c => match c.callee, o.dst with
    | .builtin .len, _ => match c.args.toList, c.argTypes.toList with
      | [x], [t] => match operand st x with
        | some a => match lenOf st (E.ty t) a with | some n => now (.v false [.int .i64 (n : Int)]) | none => none
        | none => none
      | _, _ => none
    | .builtin .append, some d => match c.args.toList with
      | [x, y] => preAppend E st d o.type x y
      | _ => none
    | .builtin .min, _ => preMinMax E st false c.args.toList
    | .builtin .max, _ => preMinMax E st true c.args.toList
    | .builtin .copy, _ => match c.args.toList, c.argTypes.toList with
      | [x, y], [t1, _] => match (E.ty t1).d with | .slice te => preCopy E st te x y | _ => none
      | _, _ => none
    | .value (.func f), some d => preCall E st d f c.args.toList c.argTypes.toList
    | _, _ => none
  | _ => none
variable {R : Type}
def runAlts (k : Eff -> Option R) : List (Bool × Eff) -> Option R
  | [] => none
  | (c, e) :: t => bif c then k e else runAlts k t
def runPlan (call : E.Call) (k : Eff -> Option R) : Plan E -> Option R
  | .alts l => runAlts k l
  | .call f x mk => match call f x with
    | some r => match mk r with | some e => k e | none => none
    | none => none
def guardSlot (ops : List Oper) (o : Oper) : Option (Option (Nat × Bool)) :=
  match o.guard with
  | none => some none
  | some (j, w) => match ops[j]? with
    | some p => match p.dst with | some d => some (some (d, w)) | none => none
    | none => none
def evOps (call : E.Call) (all : List Oper) : List Oper -> St -> (St -> Option R) -> Option R
  | [], st, k => k st
  | o :: rest, st, k =>
    let go (st : St) : Option R := match pre E o st with
      | some p => runPlan E call (fun e => evOps call all rest (e.apply o.dst st) k) p
      | none => none
    let skip (st : St) : Option R := evOps call all rest (Eff.apply ⟨.no, [], []⟩ o.dst st) k
    match guardSlot all o with
    | none => none
    | some none => go st
    | some (some (g, want)) => match getA st.sl g with
      | some (.v false [.bool b]) => match b, want with
        | true, true => go { st with sl := (g, .v false [.bool true]) :: st.sl }
        | true, false => skip { st with sl := (g, .v false [.bool true]) :: st.sl }
        | false, false => go { st with sl := (g, .v false [.bool false]) :: st.sl }
        | false, true => skip { st with sl := (g, .v false [.bool false]) :: st.sl }
      | some .no => skip { st with sl := (g, .no) :: st.sl }
      | _ => none
def opQuiet : Op -> Bool
  | .store .. | .alloc _ | .box .. | .buildSlice .. => false
  | .call { callee := .builtin .append, .. } | .call { callee := .builtin .copy, .. } => false
  | _ => true
def quietCall (E : Env) : Op -> Bool
  | .call { callee := .value (.func f), .. } => (outsOf (E.sig f).ps).isEmpty
  | .call { callee := .value _, .. } => false
  | _ => true
def lastDst : List Oper -> Option Nat
  | [] => none | [o] => o.dst | _ :: t => lastDst t
def joinable (ops : List Oper) : Option Nat :=
  if ops.any (fun o => o.guard.isSome) && ops.all (fun o => opQuiet o.op && quietCall E o.op) then lastDst ops else none
def boolAt (st : St) (d : Nat) : Option Bool :=
  match getA st.sl d with | some (.v false [.bool b]) => some b | _ => none
def forget (st : St) : List Oper -> List (Nat × AV)
  | [] => st.sl
  | o :: t => match o.dst with | some d => (d, .u) :: forget st t | none => forget st t
def evReg (call : E.Call) (ops : List Oper) (st : St) (k : St -> Option R) : Option R :=
  match joinable E ops with
  | none => evOps E call ops ops st k
  | some d => match evOps (R := Bool) E call ops ops st (fun st' => boolAt st' d) with
    | some b => k { st with sl := (d, .v false [.bool b]) :: forget st ops }
    | none => none
end Go.Proofs.YtaflceohlijekaaGreat.Ev
namespace Go.Proofs.YtaflceohlijekaaGreat.Ev
variable (E : Env) {R : Type}
abbrev Done := List (Nat × Option Nat × Eff)
def stAt (st0 : St) (mask : Nat) : Done -> St
  | [] => st0
  | (j, d, e) :: t => bif mask.testBit j then e.apply d (stAt st0 mask t) else stAt st0 mask t
def effAt : Done -> Nat -> Option Eff
  | [], _ => none
  | (j, _, e) :: t, i => bif Nat.beq j i then some e else effAt t i
def setEff : Done -> Nat -> Eff -> Done
  | [], _, _ => []
  | (j, d, e) :: t, i, e' => bif Nat.beq j i then (j, d, e') :: t else (j, d, e) :: setEff t i e'
def opW : Op -> Bool
  | .store .. => true
  | .call { callee := .builtin .append, .. } | .call { callee := .builtin .copy, .. } => true
  | .call { callee := .value (.func f), .. } => !(outsOf (E.sig f).ps).isEmpty
  | .call { callee := .value _, .. } => true
  | .buildSlice t _ _ => (match (E.ty t).sh with | .sl e => e.deep | _ => true)
  | _ => false
def opWU : Op -> Bool
  | .call { callee := .builtin .append, .. } | .call { callee := .builtin .copy, .. } => true
  | .buildSlice .. => true
  | _ => false
def opR : Op -> Bool
  | .move _ | .assign _ | .pick .. | .binOp .. | .unOp .. | .extract .. | .alloc _ | .box .. | .build .. | .makeSlice .. | .index .. => false
  | .call { callee := .builtin .min, .. } | .call { callee := .builtin .max, .. } => false
  | _ => true
def tmpsOf (o : Op) : List Nat := o.operands.toList.filterMap fun | .tmp t => some t | _ => none
def noUs (st : St) : Op -> Bool
  | .load _ x | .nilCheck x | .fieldAddr _ x _ => match operand st x with | some (.ptr (.var _ _)) => true | some (.ptr (.ext ..)) => true | _ => false
  | o => !opR o
def bit (m i : Nat) : Bool := m.testBit i
def ordered (masks : List Nat) (i j : Nat) : Bool := bit (masks.getD i 0) j || bit (masks.getD j 0) i
def bindMask (o : Oper) (masks : List Nat) : Nat := o.after.toList.foldl (fun s e => bif Region.binds .any e then s ||| (2 ^ e.on ||| masks.getD e.on 0) else s) 0
def drawOk (ops : List Oper) (masks : List Nat) : Bool :=
  let zs := ops.zipIdx
  zs.all fun (o, i) =>
    Nat.blt (masks.getD i 0) (2 ^ i) && Nat.beq (masks.getD i 0 &&& bindMask o masks) (masks.getD i 0) &&
    (match o.guard with | some (j, _) => bit (masks.getD i 0) j && (match ops[j]? with | some q => q.dst.isSome | none => false) | none => true) &&
    o.after.toList.all (fun e => !Region.binds .any e || Nat.blt e.on i) &&
    zs.all fun (q, j) =>
      Nat.beq i j ||
      ((o.dst.isNone || o.dst != q.dst) &&
       (match q.dst with | some d => !(tmpsOf o.op).contains d || bit (masks.getD i 0) j | none => true) &&
       (!bit (masks.getD i 0) j || Nat.beq (masks.getD j 0 &&& masks.getD i 0) (masks.getD j 0)) &&
       (!(opW E q.op && (opR o.op || opW E o.op)) || ordered masks i j || (opWU q.op && !opW E o.op)))
def needNoUs (ops : List Oper) (masks : List Nat) (o : Oper) (i : Nat) : Bool :=
  opR o.op && ops.zipIdx.any fun (q, j) => !Nat.beq i j && opWU q.op && opW E q.op && !ordered masks i j
def disjK {α β : Type} (l : List (Nat × α)) (t : List (Nat × β)) : Bool := l.all fun q => (getA t q.1).isNone
def disjE (m : Nat) (e : Eff) : Done -> Bool
  | [] => true
  | (j, _, e') :: t => (m.testBit j || (disjK e.nv e'.nv && disjK e.nu e'.nu)) && disjE m e t
def evD (call : E.Call) (all : List Oper) (masks : List Nat) : List Oper -> Nat -> Done -> St -> (St -> Option R) -> Option R
  | [], i, done, st0, k => k (stAt st0 (2 ^ i - 1) done)
  | o :: rest, i, done, st0, k =>
    let go (done : Done) : Option R := bif !needNoUs E all masks o i || noUs (stAt st0 (masks.getD i 0) done) o.op then
      (match pre E o (stAt st0 (masks.getD i 0) done) with
      | some p => runPlan E call (fun e => bif disjE (masks.getD i 0) e done then evD call all masks rest (i + 1) ((i, o.dst, e) :: done) st0 k else none) p
      | none => none) else none
    let skip (done : Done) : Option R := evD call all masks rest (i + 1) ((i, o.dst, ⟨.no, [], []⟩) :: done) st0 k
    match o.guard with
    | none => go done
    | some (j, want) => match effAt done j with
      | some ⟨.v false [.bool b], nv, nu⟩ => match b, want with
        | true, true => go (setEff done j ⟨.v false [.bool true], nv, nu⟩)
        | true, false => skip (setEff done j ⟨.v false [.bool true], nv, nu⟩)
        | false, false => go (setEff done j ⟨.v false [.bool false], nv, nu⟩)
        | false, true => skip (setEff done j ⟨.v false [.bool false], nv, nu⟩)
      | some ⟨.no, nv, nu⟩ => skip (setEff done j ⟨.no, nv, nu⟩)
      | _ => none
def evRegD (call : E.Call) (ops : Array Oper) (st : St) (k : St -> Option R) : Option R :=
  let masks := (Region.before ops).toList
  bif drawOk E ops.toList masks then
    match joinable E ops.toList with
    | none => evD E call ops.toList masks ops.toList 0 [] st k
    | some d => match evD (R := Bool) E call ops.toList masks ops.toList 0 [] st (fun st' => boolAt st' d) with
      | some b => k { st with sl := (d, .v false [.bool b]) :: forget st ops.toList }
      | none => none
  else none
structure Cn where
  m : List (Nat × Option Nat)        -- elder units and their new numbers
  us : List (Nat × UE)
def cnLf (us : List (Nat × UE)) (id : Nat) (c : Cn) : Lf -> Lf × Cn
  | .own k ep [] e => match getA c.m k with
    | some (some n) => (.own n 0 [] e, c)
    | some none => (.dead, c)
    | none => match getA us k, getA c.us id with
      | some (.own _ e' xs), none => (.own id 0 [] e, { m := (k, some id) :: c.m, us := (id, .own 0 e' xs) :: c.us })
      | _, _ => (.dead, c)
  | .sub k ep [] e lo len => match getA c.m k with
    | some (some n) => (.sub n 0 [] e lo len, c)
    | some none => (.dead, c)
    | none => match getA us k, getA c.us id with
      | some (.own _ e' xs), none => (.own id 0 [] e, { m := (k, none) :: c.m, us := (id, .own 0 e' ((xs.drop lo).take len)) :: c.us })
      | _, _ => (.dead, c)
  | .nl e => match getA c.us id with
    | none => (.own id 0 [] e, { c with us := (id, .own 0 e []) :: c.us })
    | some _ => (.dead, c)
  | .own _ _ (_ :: _) _ => (.dead, c)
  | .sub _ _ (_ :: _) _ _ _ => (.dead, c)
  | l => (l, c)
def cnLs (us : List (Nat × UE)) : Nat -> Cn -> List Lf -> List Lf × Cn
  | _, c, [] => ([], c)
  | id, c, l :: t => let r := cnLf us id c l; let r2 := cnLs us (id + 1) r.2 t; (r.1 :: r2.1, r2.2)
def cnAV (us : List (Nat × UE)) (id : Nat) (c : Cn) : AV -> AV × Cn
  | .v g ls => let r := cnLs us id c ls; (.v g r.1, r.2)
  | .ptr (.var r o) => (.ptr (.var r o), c)
  | .ptr (.ext e x o) => (.ptr (.ext e x o), c)
  | _ => (.u, c)
def cnSl (st : St) : Cn -> List Nat -> List (Nat × AV) × Cn
  | c, [] => ([], c)
  | c, t :: ts => match getA st.sl t with
    | some v => let r := cnAV st.us (64 * (1000000 + t)) c v; let r2 := cnSl st r.2 ts; ((t, r.1) :: r2.1, r2.2)
    | none => cnSl st c ts
def cnVs (st : St) : Cn -> List Nat -> List (Nat × List Lf) × Cn
  | c, [] => ([], c)
  | c, t :: ts => match getA st.sl t with
    | some (.ptr (.var r _)) => match getA st.vs r with
      | some ls => let q := cnLs st.us (64 * (2000000 + r)) c ls; let r2 := cnVs st q.2 ts; ((r, q.1) :: r2.1, r2.2)
      | none => cnVs st c ts
    | _ => cnVs st c ts
def canon (live : List Nat) (st : St) : St :=
  let b := cnVs st ⟨[], []⟩ live
  let a := cnSl st b.2 live
  { sl := a.1, vs := b.1, us := a.2.us }
@[reducible] def KL.D (l : KL) (r : Sh) : Sh := match l with
  | .int k => .pair (.int k) r | .bool => .pair .bool r | .str => .pair .str r | .ext e => .pair (.sl e) r | .sub _ _ => .pair (.int .i64) (.pair (.int .i64) r) | _ => r
@[reducible] def dLs : List KL -> Sh -> Sh | [], r => r | l :: t, r => l.D (dLs t r)
@[reducible] def KA.D (a : KA) (r : Sh) : Sh := match a with | .v _ ls => dLs ls r | .ext e _ => .pair e r | _ => r
@[reducible] def dSl : List (Nat × KA) -> Sh -> Sh | [], r => r | q :: t, r => q.2.D (dSl t r)
@[reducible] def dVs : List (Nat × List KL) -> Sh -> Sh | [], r => r | q :: t, r => dLs q.2 (dVs t r)
@[reducible] def dUs : List (Nat × Sh) -> Sh -> Sh | [], r => r | q :: t, r => .pair (.sl q.2) (dUs t r)
@[reducible] def Sk.A (k : Sk) : Sh := dSl k.sl (dVs k.vs (dUs k.us .unit))
def fLf : (l : KL) -> (r : Sh) -> (l.D r).T -> Lf × r.T
  | .int k, _, x => (.int k x.1, x.2) | .bool, _, x => (.bool x.1, x.2) | .str, _, x => (.str x.1, x.2) | .ext e, _, x => (.ext e x.1, x.2)
  | .own k e, _, x => (.own k 0 [] e, x) | .dead, _, x => (.dead, x)
  | .sub k e, _, x => (.sub k 0 [] e x.1.toNat x.2.1.toNat, x.2.2)
def fLs : (ls : List KL) -> (r : Sh) -> (dLs ls r).T -> List Lf × r.T
  | [], _, x => ([], x)
  | l :: t, r, x => let q := fLf l (dLs t r) x; let q2 := fLs t r q.2; (q.1 :: q2.1, q2.2)
def fAV : (a : KA) -> (r : Sh) -> (a.D r).T -> AV × r.T
  | .v g ls, r, x => let q := fLs ls r x; (.v g q.1, q.2)
  | .ext e o, _, x => (.ptr (.ext e x.1 o), x.2)
  | .var v o, _, x => (.ptr (.var v o), x) | .u, _, x => (.u, x)
def fSl : (l : List (Nat × KA)) -> (r : Sh) -> (dSl l r).T -> List (Nat × AV) × r.T
  | [], _, x => ([], x)
  | (t, a) :: l, r, x => let q := fAV a (dSl l r) x; let q2 := fSl l r q.2; ((t, q.1) :: q2.1, q2.2)
def fVs : (l : List (Nat × List KL)) -> (r : Sh) -> (dVs l r).T -> List (Nat × List Lf) × r.T
  | [], _, x => ([], x)
  | (t, a) :: l, r, x => let q := fLs a (dVs l r) x; let q2 := fVs l r q.2; ((t, q.1) :: q2.1, q2.2)
def fUs : (l : List (Nat × Sh)) -> (r : Sh) -> (dUs l r).T -> List (Nat × UE) × r.T
  | [], _, x => ([], x)
  | (t, e) :: l, r, x => let q2 := fUs l r x.2; ((t, .own 0 e x.1) :: q2.1, q2.2)
def fill (k : Sk) (x : k.A.T) : St :=
  let a := fSl k.sl _ x
  let b := fVs k.vs _ a.2
  { sl := a.1, vs := b.1, us := (fUs k.us .unit b.2).1 }
def gLf : (l : KL) -> (r : Sh) -> Lf -> r.T -> Option (l.D r).T
  | .int k, _, .int k' x, y => if h : k' = k then some (x, y) else none
  | .bool, _, .bool b, y => some (b, y) | .str, _, .str s, y => some (s, y)
  | .ext e, _, .ext e' xs, y => if h : e' = e then some (h ▸ xs, y) else none
  | .own k e, _, .own k' 0 [] e', y => bif Nat.beq k' k then (if e' = e then some y else none) else none
  | .dead, _, .dead, y => some y
  | .sub k e, _, .sub k' 0 [] e' lo len, y => bif Nat.beq k' k then (if e' = e then some (Int.ofNat lo, (Int.ofNat len, y)) else none) else none
  | _, _, _, _ => none
def gLs : (ls : List KL) -> (r : Sh) -> List Lf -> r.T -> Option (dLs ls r).T
  | [], _, [], y => some y
  | l :: t, r, x :: xs, y => match gLs t r xs y with | some q => gLf l (dLs t r) x q | none => none
  | _, _, _, _ => none
def gAV : (a : KA) -> (r : Sh) -> AV -> r.T -> Option (a.D r).T
  | .v g ls, r, .v g' l, y => if g' = g then gLs ls r l y else none
  | .ext e o, _, .ptr (.ext e' x o'), y => bif Nat.beq o' o then (if h : e' = e then some (h ▸ x, y) else none) else none
  | .var v o, _, .ptr (.var v' o'), y => bif Nat.beq v' v && Nat.beq o' o then some y else none
  | .u, _, .u, y => some y
  | _, _, _, _ => none
def gSl : (l : List (Nat × KA)) -> (r : Sh) -> List (Nat × AV) -> r.T -> Option (dSl l r).T
  | [], _, [], y => some y
  | (t, a) :: l, r, (t', x) :: xs, y => bif Nat.beq t' t then (match gSl l r xs y with | some q => gAV a (dSl l r) x q | none => none) else none
  | _, _, _, _ => none
def gVs : (l : List (Nat × List KL)) -> (r : Sh) -> List (Nat × List Lf) -> r.T -> Option (dVs l r).T
  | [], _, [], y => some y
  | (t, a) :: l, r, (t', x) :: xs, y => bif Nat.beq t' t then (match gVs l r xs y with | some q => gLs a (dVs l r) x q | none => none) else none
  | _, _, _, _ => none
def gUs : (l : List (Nat × Sh)) -> (r : Sh) -> List (Nat × UE) -> r.T -> Option (dUs l r).T
  | [], _, [], y => some y
  | (t, e) :: l, r, (t', .own 0 e' xs) :: us, y => bif Nat.beq t' t then (if h : e' = e then (match gUs l r us y with | some q => some (h ▸ xs, q) | none => none) else none) else none
  | _, _, _, _ => none
def grab (k : Sk) (st : St) : Option k.A.T :=
  let s := canon (k.sl.map (·.1)) st
  match gUs k.us .unit s.us () with
  | some y => match gVs k.vs _ s.vs y with
    | some z => gSl k.sl _ s.sl z
    | none => none
  | none => none
def loopT {V : Type} (body : V -> (V -> Option R) -> Option R) : Nat -> V -> Option R
  | 0, _ => none
  | n + 1, v => body v (loopT body n)
inductive Runs {V : Type} (body : V -> (V -> Option R) -> Option R) : V -> R -> Prop
  | stop {v r} : (∀ ag, body v ag = some r) -> Runs body v r
  | step {v v' r} : (∀ ag, body v ag = ag v') -> Runs body v' r -> Runs body v r
open Classical in
noncomputable def loopW {V : Type} (body : V -> (V -> Option R) -> Option R) (v : V) : Option R := if h : ∃ r, Runs body v r then some h.choose else none
theorem loopW_runs {V : Type} {body : V -> (V -> Option R) -> Option R} {v : V} {r : R} (h : loopW body v = some r) : ∃ m, loopT body m v = some r := by
  unfold loopW at h
  split at h
  · rename_i hx
    cases h
    have := hx.choose_spec
    generalize hx.choose = r at this
    induction this with
    | stop hs => exact ⟨1, hs _⟩
    | step hs _ ih => obtain ⟨m, hm⟩ := ih ⟨_, ‹_›⟩; exact ⟨m + 1, by rw [loopT, hs]; exact hm⟩
  · cases h
def isLoop : Code -> Bool | .loop _ => true | _ => false
def via (k : Sk) (st : St) (f : k.A.T -> Option R) : Option R := match grab k st with | some x => f x | none => none
noncomputable def evC (call : E.Call) (sk : Nat -> Sk) (fin : St -> Option R) : Code -> Nat -> St -> (St -> Option R) -> (Nat -> St -> Option R) -> Option R
  | .skip, _, st, k, _ => k st
  | .region _ ops d, _, st, k, _ => match d with
    | false => evReg E call ops.toList st k
    | true => evRegD E call ops st k
  | .seq a b, cur, st, k, ke => evC call sk fin a cur st (fun st' => evC call sk fin b cur st' k ke) ke
  | .cond x a b, cur, st, k, ke => match operand st x with
      | some (.v false [.bool g]) => match g with
        | true => evC call sk fin a cur st k ke
        | false => evC call sk fin b cur st k ke
      | _ => none
  | .block id b, _, st, k, ke => evC call sk fin b id st k (bif isLoop b then (fun i st' => bif Nat.beq i id then via (sk (1000000 + id)) st' (fun x => k (fill (sk (1000000 + id)) x)) else none) else (fun i st' => bif Nat.beq i id then k st' else ke i st'))
  | .loop b, cur, st, _, ke => via (sk cur) st (loopW (fun v again => evC call sk fin b cur (fill (sk cur) v) (fun st' => via (sk cur) st' again) ke))
  | .exit id, _, st, _, ke => ke id st
  | .ret, _, st, _, _ => fin st
  | _, _, _, _, _ => none
def argOne (E : Env) (t j : Nat) : (p : Par) -> p.sh.T -> St -> St
  | .val g s, x, r => { r with sl := (j, .v g (flat s x)) :: r.sl }
  | .ro s, x, r => { r with sl := (j, .ptr (.ext s x 0)) :: r.sl }
  | .mut s, x, r =>
    let o := ownify (flat s x) (64 * j)
    { sl := (j, .ptr (.var (1000000 + j) 0)) :: r.sl, vs := (1000000 + j, o.1) :: r.vs, us := o.2 ++ r.us }
  | .muts e, x, r => { r with sl := (j, .v false [.own (64 * j) 0 [] e]) :: r.sl, us := (64 * j, .own 0 e x) :: r.us }
  | .fld s o e, x, r => { r with sl := (j, .ptr (.cells ((List.replicate s.n .dead).set o (.own (64 * j) 0 [] e)) 0)) :: r.sl, us := (64 * j, .own 0 e x) :: r.us }
def argSt (E : Env) : (ps : List Par) -> (prod (shsOf ps)).T -> (ts : List Nat) -> Nat -> St
  | [], _, _, _ => { sl := [], vs := [], us := [] }
  | [p], x, ts, j => argOne E (ts.headD 0) j p x { sl := [], vs := [], us := [] }
  | p :: q :: t, x, ts, j => argOne E (ts.headD 0) j p x.1 (argSt E (q :: t) x.2 (ts.drop 1) (j + 1))
def resLeaves (E : Env) (st : St) : List (Bool × Sh) -> List ResultVar -> Option (List Lf)
  | [], [] => some []
  | (g, s) :: rs, .tmp t :: r => match getA st.sl t, resLeaves E st rs r with
    | some (.v g' ls), some l => if g = g' /\ ls.length = s.n then some (ls ++ l) else none
    | _, _ => none
  | (g, s) :: rs, .cell a ty :: r => match getA st.sl a, resLeaves E st rs r with
    | some (.ptr p), some l => match readP st (E.ty ty).sh.n p with
      | some ls => if (E.ty ty).agg = g /\ (E.ty ty).sh.n = s.n then some (ls ++ l) else none
      | none => none
    | _, _ => none
  | _, _ => none
def outLeaves (st : St) : List Par -> Nat -> Option (List Lf)
  | [], _ => some []
  | .mut s :: ps, j => match getA st.sl j, outLeaves st ps (j + 1) with
    | some (.ptr (.var r 0)), some l => (match getA st.vs r with | some ls => if ls.length = s.n then some (ls ++ l) else none | none => none)
    | _, _ => none
  | .muts _ :: ps, j => match getA st.sl j, outLeaves st ps (j + 1) with
    | some (.v false [l0]), some l => some (l0 :: l)
    | _, _ => none
  | .fld _ o _ :: ps, j => match getA st.sl j, outLeaves st ps (j + 1) with
    | some (.ptr (.cells ls 0)), some l => (match ls[o]? with | some l0 => some (l0 :: l) | none => none)
    | _, _ => none
  | .val _ _ :: ps, j => outLeaves st ps (j + 1)
  | .ro _ :: ps, j => outLeaves st ps (j + 1)
def fin (f : Nat) (fn : Func) (st : St) : Option (E.sig f).R.T :=
  match resLeaves E st (E.sig f).rs fn.results.toList, outLeaves st (E.sig f).ps 0 with
  | some a, some b => match give st.us (E.sig f).R (a ++ b) with
    | some (x, _, []) => some x
    | _ => none
  | _, _ => none
noncomputable def evBody (f : Nat) (fn : Func) (call : E.Call) (x : (E.sig f).A.T) : Option (E.sig f).R.T :=
  match fn.body with
  | none => none
  | some c => bif oneMut (E.sig f).ps then evC E call (E.sk f) (fin E f fn) c 0 (argSt E (E.sig f).ps x fn.params.toList 0) (fin E f fn) (fun _ _ => none) else none
noncomputable def evFn (fs : Nat -> Option Func) : Nat -> E.Call
  | 0, _, _ => none
  | n + 1, f, x => match fs f with
    | none => none
    | some fn => evBody E f fn (evFn fs n) x
end Go.Proofs.YtaflceohlijekaaGreat.Ev
