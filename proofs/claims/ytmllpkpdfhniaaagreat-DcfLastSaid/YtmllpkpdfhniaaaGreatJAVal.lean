/- The plain meaning of values: their widths, when they can be, their bytes, their order. No program in sight. -/
import Derived.Laws.Bits64
import Derived.Laws.BitsLemmas
import Derived.Lib.Strings
import Derived.Lib.Bytealg
set_option linter.unusedVariables false
set_option linter.unusedSimpArgs false
namespace Go.Proofs.YtmllpkpdfhniaaaGreat
open Go

/-- A value: its type, its number, its bytes. -/
structure V where
  t : Int
  n : Int
  b : ByteArray
deriving DecidableEq

theorem V.ext' {x y : V} (h1 : x.t = y.t) (h2 : x.n = y.n) (h3 : x.b = y.b) : x = y := by cases x; cases y; simp_all

def noB : ByteArray := ⟨#[]⟩
def V.zero : V := ⟨0, 0, noB⟩
def V.cells (v : V) : List Value := [.int .i64 v.t, .int .u64 v.n, .string v.b]
def V.agg (v : V) : Value := .agg #[.int .i64 v.t, .int .u64 v.n, .string v.b]
/-- The number has 64 bits. -/
def V.wf (v : V) : Prop := 0 ≤ v.n ∧ v.n ≤ 18446744073709551615

def szOf (t : Int) : Int := if t = 1 ∨ t = 2 ∨ t = 5 then 1 else if t = 3 ∨ t = 6 then 2 else if t = 4 ∨ t = 7 then 4 else if t = 21 ∨ t = 27 then 8 else 0
def sgOf (t : Int) : Bool := decide (t = 2 ∨ t = 3 ∨ t = 4 ∨ t = 21)
def isOf (t : Int) : Bool := decide (0 < szOf t ∨ t = 9 ∨ t = 10 ∨ t = 15)

/-- Twice the bits: the half and the whole of a width. -/
def halfOf (s : Int) : Int := if s = 1 then 128 else if s = 2 then 32768 else if s = 4 then 2147483648 else 9223372036854775808
def fullOf (s : Int) : Int := if s = 1 then 256 else if s = 2 then 65536 else if s = 4 then 4294967296 else 18446744073709551616
def fitsV (s : Int) (g : Bool) (n : Int) : Bool := if g then decide (n < halfOf s ∨ 18446744073709551616 - halfOf s ≤ n) else decide (n < fullOf s)

def badU (x : UInt8) : Bool := decide (x.toNat < 32) || decide (126 < x.toNat)
def badT (b : ByteArray) : Bool := b.data.toList.any badU

def chkV (v : V) : Int :=
  if isOf v.t = false then 1
  else if szOf v.t = 0 ∧ 65536 < (v.b.size : Int) then 2
  else if (0 < szOf v.t ∧ fitsV (szOf v.t) (sgOf v.t) v.n = false) ∨ (v.t = 1 ∧ 1 < v.n) then 1
  else if v.t = 9 ∧ badT v.b = true then 1
  else 0

def plainV (v : V) : V := if 0 < szOf v.t then ⟨v.t, v.n, noB⟩ else if isOf v.t = true then ⟨v.t, 0, v.b⟩ else v

/-- So many bytes of a number, lowest first. -/
def leB (n : Int) (k : Nat) : List UInt8 := (List.range k).map fun i => UInt8.ofNat (n.toNat / 256 ^ i)
/-- The number of bytes, lowest first. -/
def leN : List UInt8 → Nat
  | [] => 0
  | x :: l => x.toNat + 256 * leN l
/-- .. as one of 64 bits, with a sign or none. -/
def wideV (t : Int) (l : List UInt8) : Int :=
  if sgOf t = true ∧ halfOf (szOf t) ≤ (leN l : Int) then (leN l : Int) + 18446744073709551616 - fullOf (szOf t) else (leN l : Int)

def encV (v : V) : List UInt8 := if szOf v.t = 0 then v.b.data.toList else leB v.n (szOf v.t).toNat

def rawV (t : Int) (l : List UInt8) : V := if szOf t = 0 then ⟨t, 0, ⟨l.toArray⟩⟩ else ⟨t, wideV t l, noB⟩
def decE (t : Int) (l : List UInt8) : Int :=
  if isOf t = false then 1
  else if (l.length : Int) < szOf t then 3
  else if (0 < szOf t ∧ szOf t < (l.length : Int)) ∨ 65536 < (l.length : Int) then 2
  else if chkV (rawV t l) ≠ 0 then 8
  else 0
def decV (t : Int) (l : List UInt8) : V := if decE t l = 0 then rawV t l else V.zero

/-- A number with a sign. -/
def sN (n : Int) : Int := if 9223372036854775808 ≤ n then n - 18446744073709551616 else n
def cmpI (a b : Int) : Int := if a < b then -1 else if b < a then 1 else 0
def ordE (a b : V) : Int := if chkV a ≠ 0 then chkV a else if chkV b ≠ 0 then chkV b else if a.t ≠ b.t then 1 else 0
def ordN (a b : V) : Int :=
  if ordE a b ≠ 0 then 0
  else if szOf a.t = 0 then Lib.compareBytes a.b.data.toList b.b.data.toList
  else if sgOf a.t = true then cmpI (sN a.n) (sN b.n)
  else cmpI a.n b.n

theorem szOf_cases (t : Int) : szOf t = 0 ∨ szOf t = 1 ∨ szOf t = 2 ∨ szOf t = 4 ∨ szOf t = 8 := by unfold szOf; split <;> (try split) <;> (try split) <;> (try split) <;> simp
theorem szOf_nonneg (t : Int) : 0 ≤ szOf t := by have := szOf_cases t; omega
theorem szOf_le (t : Int) : szOf t ≤ 8 := by have := szOf_cases t; omega
theorem sg_sz {t : Int} (h : sgOf t = true) : 0 < szOf t := by
  unfold sgOf at h
  simp only [decide_eq_true_eq] at h
  rcases h with rfl | rfl | rfl | rfl <;> decide
theorem is_sz {t : Int} (h : 0 < szOf t) : isOf t = true := by unfold isOf; simp [h]

end Go.Proofs.YtmllpkpdfhniaaaGreat
