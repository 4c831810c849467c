/- What lot makes of words, as plain functions: draws, values, statements, functions, programs. No condition. -/
import Derived.Test.YthaniobijkdnoaaX
namespace Go.Proofs.Ythaniobijkdnoaa

/-- how far a maker is -/
structure St where
  pos : Nat
  code : List (Int × Int)
  lines : List Int
  locals : List Int
  line : Int

/-- what a maker knows: the words, the functions' heads, whose the function is -/
structure Kn where
  ws : List Int
  all : List Fn
  me : Int
  outer : List Int
  params : List Int
  results : List Int

def remV (x b : Int) : Int := if x.tmod b < 0 then x.tmod b + b else x.tmod b
def drV (ws : List Int) (pos : Nat) (b : Int) : Int := if ws.length ≤ pos ∨ b < 1 then 0 else remV (ws.getD pos 0) b
def drP (ws : List Int) (pos : Nat) (b : Int) : Nat := if ws.length ≤ pos ∨ b < 1 then pos else pos + 1

namespace Lot
variable (c : Kn)
def rV (b : Int) (s : St) : Int := drV c.ws s.pos b
def rS (b : Int) (s : St) : St := { s with pos := drP c.ws s.pos b }
def put (op a : Int) (s : St) : St := { s with code := s.code ++ [(op, a)], lines := s.lines ++ [s.line] }
def slots (s : St) : List Int := c.params ++ c.results ++ s.locals
def here (at_ : Nat) (s : St) : St := { s with code := s.code.set at_ ((s.code.getD at_ (0, 0)).1, (s.code.length : Int)) }
/-- the places of a type -/
def places (t : Int) (l : List Int) : List Int := ((List.range l.length).filter (fun i => l.getD i 0 == t)).map (fun i : Nat => (i : Int))
def slotV (t : Int) (s : St) : Int := if places t (slots c s) = [] then -1 else (places t (slots c s)).getD (rV c (places t (slots c s)).length s).toNat 0
def slotS (t : Int) (s : St) : St := if places t (slots c s) = [] then s else rS c (places t (slots c s)).length s
def pushS (s : St) : St := put 1 (rV c 9 s - 3) (rS c 9 s)
def lit (t : Int) (s : St) : St := if t = 2 then put 15 0 (pushS c (pushS c s)) else pushS c s
def leaf (t : Int) (s : St) : St :=
  if 0 ≤ slotV c t s then
    (if 0 < rV c 3 (slotS c t s) then put 2 (slotV c t s) (rS c 3 (slotS c t s)) else lit c t (rS c 3 (slotS c t s)))
  else lit c t (slotS c t s)
def ops7 : List Int := [6, 7, 8, 9, 10, 12, 13]
def put2 (o n b : Int) (s : St) : St := put (o + rV c b s) n (rS c b s)
def putN (s : St) : St := put ([11, 14].getD (rV c 2 s).toNat 0) 0 (rS c 2 s)
def putB (s : St) : St := put (ops7.getD (rV c 7 s).toNat 0) 0 (rS c 7 s)
/-- a value of a type -/
def value : Nat → Int → St → St
  | 0, t, s => if t = 1 then leaf c 1 (rS c 8 s) else leaf c t s
  | n + 1, t, s => if t = 1 then
      (if rV c 8 s = 0 then leaf c 1 (rS c 8 s) else if rV c 8 s = 1 then put 32 0 (rS c 8 s) else if rV c 8 s = 2 then put2 c 19 0 2 (value n 2 (rS c 8 s)) else if rV c 8 s = 3 then putN c (value n 1 (rS c 8 s))
       else putB c (value n 1 (value n 1 (rS c 8 s))))
    else (if rV c 2 s = 0 then leaf c t (rS c 2 s) else if rV c 2 (rS c 2 s) = 0 then put 15 0 (value n 1 (value n 1 (rS c 2 (rS c 2 s)))) else put2 c 16 0 3 (value n t (value n t (rS c 2 (rS c 2 s)))))
def values : List Int → St → St
  | [], s => s
  | t :: l, s => values l (value c 1 t s)
def drop (t : Int) (s : St) : St := if 0 ≤ slotV c t s then put 3 (slotV c t s) (slotS c t s) else put 4 0 (slotS c t s)
def drops : List Int → St → St
  | [], s => s
  | t :: l, s => drops l (drop c t s)
def callee (s : St) : Fn := c.all.getD (rV c c.all.length s).toNat default
def bars (op : Int) (x : Fn) : Bool := x.inner && (op == 23 || !(x.outer == c.results))
def call (op : Int) (s : St) : St :=
  if bars c op (callee c s) then rS c c.all.length s
  else if op = 24 then put op (rV c c.all.length s) (values c (callee c s).params (rS c c.all.length s))
  else drops c (callee c s).results.reverse (put op (rV c c.all.length s) (values c (callee c s).params (rS c c.all.length s)))
def branch (f : St → St) (s : St) : St := put 0 0 (here (value c 1 1 s).code.length.succ (f (put 22 0 (put 14 0 (value c 1 1 s)))))
def recover (s : St) : St := put 30 0 (put 30 0 (put 27 0 s))
def outer (s : St) : St :=
  if c.outer = [] then s
  else if rV c 2 (rS c c.outer.length s) = 0 then drop c (c.outer.getD (rV c c.outer.length s).toNat 0) (put 28 (rV c c.outer.length s) (rS c 2 (rS c c.outer.length s)))
  else put 29 (rV c c.outer.length s) (value c 1 (c.outer.getD (rV c c.outer.length s).toNat 0) (rS c 2 (rS c c.outer.length s)))
def plain (kind : Int) (s : St) : St :=
  if kind = 0 ∨ kind = 1 then put 30 0 (value c 2 1 s)
  else if kind = 2 ∨ kind = 3 then
    (if slots c s = [] then s else put 3 (rV c (slots c s).length s) (value c 2 ((slots c s).getD (rV c (slots c s).length s).toNat 0) (rS c (slots c s).length s)))
  else if kind = 4 ∨ kind = 5 then call c 23 s
  else if kind = 6 ∨ kind = 7 then call c 24 s
  else if kind = 8 then put 31 0 s
  else if kind = 9 then recover s
  else outer c s
def addLocal (s : St) : St := { s with locals := s.locals ++ [1] }
def loopHead (k : Int) (s : St) : St := put 0 0 (put 3 k (put 1 (rV c 3 s + 1) (rS c 3 s)))
def loopTail (k from_ : Int) (s : St) : St := put 22 from_ (put 8 0 (put 2 k (put 14 0 (put 12 0 (put 1 0 (put 3 k (put 5 0 (put 7 0 (put 1 1 (put 2 k s))))))))))
def loop (f : St → St) (s : St) : St :=
  loopTail (slots c s).length ((loopHead c (slots c s).length (addLocal s)).code.length - 1 : Nat) (f (loopHead c (slots c s).length (addLocal s)))
def tick (s : St) : St := { rS c 3 s with line := s.line + rV c 3 s }
def stmt : Nat → St → St
  | n, s =>
    let k := rV c 15 (tick c s)
    let s1 := rS c 15 (tick c s)
    if 320 < s1.code.length then s1
    else if k = 14 ∧ 0 < n then (match n with | 0 => s1 | m + 1 => loop c (stmt m) s1)
    else if k = 13 ∧ 0 < n then (match n with | 0 => s1 | m + 1 => branch c (stmt m) s1)
    else if k = 12 then branch c (fun s => put 26 0 (value c 1 1 s)) s1
    else plain c k s1
def stmts : Nat → St → St
  | 0, s => s
  | k + 1, s => stmts k (stmt c 3 s)
def body (s : St) : St :=
  let s0 := { s with line := 10 * c.me + 1 }
  let s1 := stmts c (rV c 7 s0 + 1).toNat (rS c 7 s0)
  put 25 0 { s1 with line := s1.line + 1 }
end Lot

/-- types that are drawn -/
def typesK (ws : List Int) : Nat → Nat → List Int × Nat
  | 0, p => ([], p)
  | k + 1, p => ((if drV ws p 3 = 0 then 2 else 1) :: (typesK ws k (drP ws p 3)).1, (typesK ws k (drP ws p 3)).2)
def typesV (ws : List Int) (most : Int) (p : Nat) : List Int × Nat := typesK ws (drV ws p (most + 1)).toNat (drP ws p (most + 1))
def headName (i : Nat) : ByteArray := ⟨#[102, (48 + i).toUInt8]⟩
/-- a further head -/
def headS (ws : List Int) (out : List Fn) (i p : Nat) : Fn × Nat :=
  let ps := typesV ws 2 p
  let rs := typesV ws 2 ps.2
  let ls := typesV ws 2 rs.2
  let d := drV ws ls.2 3
  let p4 := drP ws ls.2 3
  if d = 0 then (⟨headName i, true, (out.getD (drV ws p4 out.length).toNat default).results, ps.1, rs.1, ls.1, [], []⟩, drP ws p4 out.length)
  else (⟨headName i, false, [], ps.1, rs.1, ls.1, [], []⟩, p4)
def headsK (ws : List Int) : Nat → List Fn × Nat → List Fn × Nat
  | 0, o => o
  | k + 1, o => headsK ws k (o.1 ++ [(headS ws o.1 o.1.length o.2).1], (headS ws o.1 o.1.length o.2).2)
def mainName : ByteArray := ⟨#[109, 97, 105, 110]⟩
def headsV (ws : List Int) : List Fn × Nat :=
  let n := drV ws 0 6 + 1
  let t := typesV ws 3 (drP ws 0 6)
  headsK ws (n - 1).toNat ([⟨mainName, false, [], [1, 1], [1], t.1, [], []⟩], t.2)
def knOf (ws : List Int) (all : List Fn) (i : Nat) : Kn := ⟨ws, all, i, (all.getD i default).outer, (all.getD i default).params, (all.getD i default).results⟩
def bodyOf (ws : List Int) (all : List Fn) (i p : Nat) : St := Lot.body (knOf ws all i) ⟨p, [], [], (all.getD i default).locals, 0⟩
def funcOf (ws : List Int) (all : List Fn) (i p : Nat) : Fn := { all.getD i default with locals := (bodyOf ws all i p).locals, code := (bodyOf ws all i p).code, lines := (bodyOf ws all i p).lines }
def progK (ws : List Int) (all : List Fn) : Nat → Nat → Nat → List Fn
  | 0, _, _ => []
  | k + 1, i, p => funcOf ws all i p :: progK ws all k (i + 1) (bodyOf ws all i p).pos
def progV (ws : List Int) : List Fn := progK ws (headsV ws).1 (headsV ws).1.length 0 (headsV ws).2
end Go.Proofs.Ythaniobijkdnoaa
