/- What the lexer answers, as plain Lean over lists of bytes; nothing of the program is read here. -/
import Init
namespace Go.Proofs.YtgidnbkbmjjihaaGreatDoor
namespace Lex

def isLetter (c : UInt8) : Bool := (decide (97 ≤ c.toNat) && decide (c.toNat ≤ 122)) || (decide (65 ≤ c.toNat) && decide (c.toNat ≤ 90)) || decide (c.toNat = 95)
def isDigit (c : UInt8) : Bool := decide (48 ≤ c.toNat) && decide (c.toNat ≤ 57)
def isWordByte (c : UInt8) : Bool := isLetter c || isDigit c
def isBlank (c : UInt8) : Bool := decide (c.toNat = 32) || decide (c.toNat = 9) || decide (c.toNat = 10) || decide (c.toNat = 13)
def lowerB (c : UInt8) : UInt8 := if 65 ≤ c.toNat ∧ c.toNat ≤ 90 then c + 32 else c

structure Tok where
  kind : Int
  text : List UInt8
  at_ : Int
  int : Int
  deriving DecidableEq

def numOf (l : List UInt8) : Nat := l.foldl (fun n c => n * 10 + (c.toNat - 48)) 0

/-- A quoted text behind its first quote: its bytes, and how many bytes were read; none: it has no end. -/
def textGo : List UInt8 → Option (List UInt8 × Nat)
  | [] => none
  | [c] => if c = 39 then some ([], 1) else none
  | c :: d :: r =>
    if c = 39 then (if d = 39 then (textGo r).map (fun p => (39 :: p.1, p.2 + 2)) else some ([], 1))
    else (textGo (d :: r)).map (fun p => (c :: p.1, p.2 + 1))

def hexVal (c : UInt8) : Option Nat :=
  if 48 ≤ c.toNat ∧ c.toNat ≤ 57 then some (c.toNat - 48)
  else if 97 ≤ c.toNat ∧ c.toNat ≤ 102 then some (c.toNat - 87)
  else if 65 ≤ c.toNat ∧ c.toNat ≤ 70 then some (c.toNat - 55)
  else none

def hexPairs : List UInt8 → Option (List UInt8)
  | [] => some []
  | [_] => none
  | c :: d :: r => match hexVal c, hexVal d with
    | some a, some b => (hexPairs r).map (fun l => UInt8.ofNat (a * 16 + b) :: l)
    | _, _ => none

/-- A blob behind the x: its first byte is the quote. -/
def blobOf (s : List UInt8) : Option (List UInt8 × Nat) :=
  let ds := (s.drop 1).takeWhile (fun c => c != 39)
  if ds.length + 1 < s.length then (hexPairs ds).map (fun l => (l, ds.length + 2)) else none

def symLen : List UInt8 → Nat
  | [] => 0
  | [c] => if c ∈ [40, 41, 44, 46, 42, 61, 60, 62, 43, 45, 47, 37, 59] then 1 else 0
  | c :: d :: _ =>
    if (c = 60 ∧ d = 62) ∨ (c = 60 ∧ d = 61) ∨ (c = 62 ∧ d = 61) ∨ (c = 124 ∧ d = 124) then 2
    else if c ∈ [40, 41, 44, 46, 42, 61, 60, 62, 43, 45, 47, 37, 59] then 1 else 0

/-- The token at the front, and how many bytes it has; none: there is none. -/
def tok : List UInt8 → Option (Tok × Nat)
  | [] => none
  | c :: r =>
    if (c = 120 ∨ c = 88) ∧ r.head? = some 39 then (blobOf r).map (fun p => (⟨4, p.1, 0, 0⟩, p.2 + 1))
    else if isLetter c then some (⟨1, ((c :: r).takeWhile isWordByte).map lowerB, 0, 0⟩, ((c :: r).takeWhile isWordByte).length)
    else if isDigit c then
      (if numOf ((c :: r).takeWhile isDigit) < 9223372036854775808 then some (⟨2, [], 0, numOf ((c :: r).takeWhile isDigit)⟩, ((c :: r).takeWhile isDigit).length) else none)
    else if c = 39 then (textGo r).map (fun p => (⟨3, p.1, 0, 0⟩, p.2 + 1))
    else if symLen (c :: r) = 0 then none else some (⟨5, (c :: r).take (symLen (c :: r)), 0, 0⟩, symLen (c :: r))

/-- The words from a place on: a list, or the place of what is no word. The first number bounds the rounds. -/
def scan : Nat → Nat → List UInt8 → Except Nat (List Tok)
  | 0, _, _ => .ok []
  | _ + 1, _, [] => .ok []
  | k + 1, n, c :: r =>
    if isBlank c then scan k (n + 1) r
    else if c = 45 ∧ r.head? = some 45 then
      (if 10 ∈ c :: r then scan k (n + ((c :: r).takeWhile (fun x => x != 10)).length) ((c :: r).dropWhile (fun x => x != 10)) else .ok [])
    else match tok (c :: r) with
      | none => .error n
      | some (t, m) => (scan k (n + m) ((c :: r).drop m)).map (fun l => { t with at_ := n } :: l)

/-- What Tokens answers: the words, or the place and the number of the error. -/
def tokens (s : List UInt8) : Except (Nat × Nat) (List Tok) :=
  if s.length > 16384 then .error (0, 8) else match scan (s.length + 1) 0 s with
    | .error n => .error (n, 20)
    | .ok l => .ok l

end Lex
end Go.Proofs.YtgidnbkbmjjihaaGreatDoor
