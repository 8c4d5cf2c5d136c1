/- How a text is read, plain: byte by byte, with all that is known so far. -/
import Derived.Test.YtojdjhicjhhblaaDoorProg
namespace Go.Proofs.YtojdjhicjhhblaaDoor
/-- a word: its bytes, and whether it stood in quotes -/
abbrev Trm := List UInt8 × Bool
structure Ent where
  line : Int
  blank : Bool
  words : List Trm
/-- what is known -/
structure Sc where
  line : Int
  st : Nat
  deep : Nat
  cur : List UInt8
  begun : Int
  eline : Int
  blank : Bool
  words : List Trm
  fresh : Bool
  out : List Ent
def blankB (b : UInt8) : Bool := b == 32 || b == 9 || b == 13
def stopB (b : UInt8) : Bool := blankB b || b == 59 || b == 40 || b == 41 || b == 10
def Sc.word (c : Sc) : Except (Int × Int) Sc :=
  if c.words.length = 64 then .error (3, c.begun) else .ok { c with eline := if c.words.isEmpty then c.begun else c.eline, words := c.words ++ [(c.cur, c.st == 2)] }
def Sc.entry (c : Sc) : Sc := { c with out := if c.words.isEmpty then c.out else c.out ++ [⟨c.eline, c.blank, c.words⟩], eline := 0, blank := false, words := [], fresh := true }
/-- behind the word, if there was one -/
def Sc.mark (b : UInt8) (c : Sc) : Except (Int × Int) Sc :=
  let c := if c.st == 4 && b != 10 then c else { c with st := 0 }
  if b == 59 then .ok { c with st := 4 } else if b == 40 then .ok { c with deep := c.deep + 1 } else if b == 41 then (if c.deep = 0 then .error (230, c.line) else .ok { c with deep := c.deep - 1 })
  else if b == 10 then .ok { (if c.deep = 0 then c.entry else c) with line := c.line + 1 } else .ok c
def Sc.ends (b : UInt8) (c : Sc) : Except (Int × Int) Sc :=
  if c.st = 1 then (match c.word with | .ok c => c.mark b | .error e => .error e) else c.mark b
def pend (tot : Int) (c : Sc) : List Ent × (Int × Int) :=
  match (if c.st = 1 then c.word else .ok c) with
  | .error e => ([], e)
  | .ok c => if c.st = 2 ∨ 0 < c.deep then ([], (230, tot)) else (c.entry.out, (0, 0))
/-- the first byte of an entry -/
def Sc.see (b : UInt8) (c : Sc) : Sc := if c.fresh then { c with blank := blankB b, fresh := false } else c
/-- a word that is not in quotes begins -/
def Sc.open_ (c : Sc) : Sc := if c.st = 0 then { c with st := 1, cur := [], begun := c.line } else c
def nextBad : List UInt8 → Bool
  | [] => false
  | x :: _ => !stopB x
def prun (tot : Int) : List UInt8 → Sc → List Ent × (Int × Int)
  | [], c => pend tot c
  | [b], c =>
    if (c.see b).st = 4 then (if b == 10 then (match (c.see b).ends b with | .ok c => pend tot c | .error e => ([], e)) else pend tot (c.see b))
    else if (c.see b).st = 2 then
      if b == 34 then (match (c.see b).word with | .ok c => pend tot { c with st := 3 } | .error e => ([], e))
      else if b == 10 then ([], (230, c.line))
      else if b == 92 then ([], (230, tot))
      else pend tot { c.see b with cur := c.cur ++ [b] }
    else if stopB b then (match (c.see b).ends b with | .ok c => pend tot c | .error e => ([], e))
    else if b == 34 then (if (c.see b).st = 1 then ([], (230, c.line)) else pend tot { c.see b with st := 2, cur := [], begun := c.line })
    else if b == 92 then ([], (230, tot))
    else pend tot { (c.see b).open_ with cur := (c.see b).open_.cur ++ [b] }
  | b :: x :: r, c =>
    if (c.see b).st = 4 then (if b == 10 then (match (c.see b).ends b with | .ok c => prun tot (x :: r) c | .error e => ([], e)) else prun tot (x :: r) (c.see b))
    else if (c.see b).st = 2 then
      if b == 34 then (if !stopB x then ([], (230, c.line)) else match (c.see b).word with | .ok c => prun tot (x :: r) { c with st := 3 } | .error e => ([], e))
      else if b == 10 then ([], (230, c.line))
      else if b == 92 then (if x == 10 then ([], (230, c.line)) else prun tot r { c.see b with cur := c.cur ++ [b, x] })
      else prun tot (x :: r) { c.see b with cur := c.cur ++ [b] }
    else if stopB b then (match (c.see b).ends b with | .ok c => prun tot (x :: r) c | .error e => ([], e))
    else if b == 34 then (if (c.see b).st = 1 then ([], (230, c.line)) else prun tot (x :: r) { c.see b with st := 2, cur := [], begun := c.line })
    else if b == 92 then (if x == 10 then ([], (230, c.line)) else prun tot r { (c.see b).open_ with cur := (c.see b).open_.cur ++ [b, x] })
    else prun tot (x :: r) { (c.see b).open_ with cur := (c.see b).open_.cur ++ [b] }
termination_by structural l => l
def linesOf (s : List UInt8) : Int := (s.filter (· == 10)).length + (if s.isEmpty then 0 else if s.getLast? == some 10 then 0 else 1)
def sc0 : Sc := ⟨1, 0, 0, [], 0, 0, false, [], true, []⟩
def pEnt (s : List UInt8) : List Ent × (Int × Int) := if 65536 < s.length then ([], (3, 0)) else prun (linesOf s) s sc0
end Go.Proofs.YtojdjhicjhhblaaDoor
