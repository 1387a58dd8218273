/- Plain lemmas on numbers and their bytes. The plain meaning of entries of a dictionary. No program in sight. -/
import Derived.Test.YtmllpkpdfhniaaaGreatJAVal
import Derived.Laws.BitsAllLaws
import Derived.WalkKit
set_option linter.unusedVariables false
set_option linter.unusedSimpArgs false
namespace Go.Proofs.YtmllpkpdfhniaaaGreat
open Go Go.RowKit

theorem leN_snoc (l : List UInt8) (x : UInt8) : leN (l ++ [x]) = leN l + x.toNat * 256 ^ l.length := by
  induction l with
  | nil => simp [leN]
  | cons y l ih => simp only [List.cons_append, leN, ih, List.length_cons, Nat.pow_succ]; rw [Nat.mul_add, ← Nat.add_assoc]; congr 1; rw [Nat.mul_comm (x.toNat) (256 ^ l.length * 256), Nat.mul_comm x.toNat]; ac_rfl
theorem leN_lt (l : List UInt8) : leN l < 256 ^ l.length := by
  induction l with
  | nil => simp [leN]
  | cons y l ih => simp only [leN, List.length_cons, Nat.pow_succ]; have := y.toNat_lt; omega
theorem leN_take (l : List UInt8) (k : Nat) (h : k < l.length) : leN (l.take (k + 1)) = leN (l.take k) + (l.getD k 0).toNat * 256 ^ k := by
  rw [List.take_succ_eq_append_getElem h, leN_snoc, List.length_take, Nat.min_eq_left (by omega)]
  simp [List.getD, h]
theorem leN_take_lt (l : List UInt8) (k : Nat) (h : k ≤ l.length) : leN (l.take k) < 256 ^ k := by
  have := leN_lt (l.take k); rwa [List.length_take, Nat.min_eq_left h] at this
/-- A byte more, laid ahead of the lower ones. -/
theorem or_step (m x k : Nat) (hm : m < 256 ^ k) (hx : x < 256) (hk : k < 8) : bits .or .u64 (m : Int) (IntKind.u64.wrap ((x : Int) * 2 ^ (8 * k))) = ((m + x * 256 ^ k : Nat) : Int) := by
  have e : (256 : Nat) ^ k = 2 ^ (8 * k) := by rw [Nat.pow_mul]
  rw [e] at hm ⊢
  have h1 : 2 ^ (8 * k) ≤ 2 ^ 56 := Nat.pow_le_pow_right (by omega) (by omega)
  have h2 : x * 2 ^ (8 * k) ≤ 255 * 2 ^ 56 := Nat.mul_le_mul (by omega) h1
  have hw : IntKind.u64.wrap ((x : Int) * 2 ^ (8 * k)) = ((x * 2 ^ (8 * k) : Nat) : Int) := by
    rw [IntKind.wrap_u64]
    have : ((x : Int) * 2 ^ (8 * k)) = ((x * 2 ^ (8 * k) : Nat) : Int) := by simp
    rw [this]; omega
  rw [hw, u64_or_nat _ _ (by omega) (by omega)]
  congr 1
  have := Nat.two_pow_add_eq_or_of_lt hm x
  rw [Nat.or_comm, Nat.mul_comm x, ← this, Nat.add_comm]

theorem sgx_1 (m : Nat) (h : m < 256 ^ 1) : IntKind.u64.wrap (wrap64 (m * 72057594037927936) / 72057594037927936) = if halfOf 1 ≤ (m : Int) then (m : Int) + 18446744073709551616 - fullOf 1 else m := by
  have e1 : halfOf 1 = 128 := rfl
  have e2 : fullOf 1 = 256 := rfl
  rw [e1, e2, IntKind.wrap_u64]
  unfold wrap64
  split <;> omega
theorem sgx_2 (m : Nat) (h : m < 256 ^ 2) : IntKind.u64.wrap (wrap64 (m * 281474976710656) / 281474976710656) = if halfOf 2 ≤ (m : Int) then (m : Int) + 18446744073709551616 - fullOf 2 else m := by
  have e1 : halfOf 2 = 32768 := rfl
  have e2 : fullOf 2 = 65536 := rfl
  rw [e1, e2, IntKind.wrap_u64]
  unfold wrap64
  split <;> omega
theorem sgx_4 (m : Nat) (h : m < 256 ^ 4) : IntKind.u64.wrap (wrap64 (m * 4294967296) / 4294967296) = if halfOf 4 ≤ (m : Int) then (m : Int) + 18446744073709551616 - fullOf 4 else m := by
  have e1 : halfOf 4 = 2147483648 := rfl
  have e2 : fullOf 4 = 4294967296 := rfl
  rw [e1, e2, IntKind.wrap_u64]
  unfold wrap64
  split <;> omega
theorem sgx_8 (m : Nat) (h : m < 256 ^ 8) : IntKind.u64.wrap (wrap64 m) = if halfOf 8 ≤ (m : Int) then (m : Int) + 18446744073709551616 - fullOf 8 else m := by
  have e1 : halfOf 8 = 9223372036854775808 := rfl
  have e2 : fullOf 8 = 18446744073709551616 := rfl
  rw [e1, e2, IntKind.wrap_u64]
  unfold wrap64
  split <;> omega
theorem wide_t {t : Int} {l : List UInt8} {s : Int} (hs : szOf t = s) (hg : sgOf t = true) : wideV t l = if halfOf s ≤ (leN l : Int) then (leN l : Int) + 18446744073709551616 - fullOf s else (leN l : Int) := by
  unfold wideV; rw [hs, hg]; simp
theorem wide_f {t : Int} {l : List UInt8} {s : Int} (hs : szOf t = s) (hg : sgOf t = false) : wideV t l = (leN l : Int) := by
  unfold wideV; rw [hg]; simp
/-- A number that came of so many bytes has 64 bits. -/
theorem wideV_wf (t : Int) (l : List UInt8) (h : l.length = (szOf t).toNat) : 0 ≤ wideV t l ∧ wideV t l ≤ 18446744073709551615 := by
  have hl := leN_lt l
  rw [h] at hl
  rcases szOf_cases t with e | e | e | e | e <;> rw [e] at hl <;> unfold wideV <;> rw [e] <;> simp only [halfOf, fullOf] <;> (try simp at hl) <;> (try split) <;> (try simp) <;> omega

end Go.Proofs.YtmllpkpdfhniaaaGreat

namespace Go.Proofs.YtmllpkpdfhniaaaGreat
open Go

structure E where
  ix : Int
  sub : Int
  acc : Int
  mp : Bool
  lim : Bool
  mn : V
  mx : V
  df : V
deriving DecidableEq

def E.cells (e : E) : List Value := [.int .u16 e.ix, .int .u8 e.sub, .int .i64 e.acc, .bool e.mp, .bool e.lim, .int .i64 e.mn.t, .int .u64 e.mn.n, .string e.mn.b, .int .i64 e.mx.t, .int .u64 e.mx.n, .string e.mx.b, .int .i64 e.df.t, .int .u64 e.df.n, .string e.df.b]
def E.agg (e : E) : Value := .agg #[.int .u16 e.ix, .int .u8 e.sub, .int .i64 e.acc, .bool e.mp, .bool e.lim, .int .i64 e.mn.t, .int .u64 e.mn.n, .string e.mn.b, .int .i64 e.mx.t, .int .u64 e.mx.n, .string e.mx.b, .int .i64 e.df.t, .int .u64 e.df.n, .string e.df.b]
def E.wf (e : E) : Prop := (0 ≤ e.ix ∧ e.ix ≤ 65535) ∧ (0 ≤ e.sub ∧ e.sub ≤ 255) ∧ e.mn.wf ∧ e.mx.wf ∧ e.df.wf
/-- An entry's place, as one number. -/
def E.pl (e : E) : Int := e.ix * 256 + e.sub
def E.zero : E := ⟨0, 0, 0, false, false, V.zero, V.zero, V.zero⟩

def cGeneral : Int := 134217728
def cTooHigh : Int := 101253169
def cTooLow : Int := 101253170
def withinV (mn mx v : V) : Int := if ordE v mn ≠ 0 ∨ ordE v mx ≠ 0 then cGeneral else if 0 < ordN v mx then cTooHigh else if ordN v mn < 0 then cTooLow else 0
def limE (e : E) : Bool := decide (0 < szOf e.df.t) && decide (withinV e.mn e.mx e.df = 0)
/-- What is wrong with an entry. -/
def entE (e : E) : Int :=
  if chkV e.df ≠ 0 then chkV e.df
  else if e.acc < 0 ∨ 3 < e.acc ∨ (e.mp = true ∧ ¬ 0 < szOf e.df.t) ∨ (e.lim = true ∧ limE e = false) then 1
  else 0

/-- What is wrong with entries: the first that is wrong, or that is there already. -/
def firstE : List Int → List E → Int
  | _, [] => 0
  | seen, e :: l => if entE e ≠ 0 then entE e else if e.pl ∈ seen then 5 else firstE (e.pl :: seen) l
def chkL (l : List E) : Int := if 1024 < l.length then 2 else firstE [] l

end Go.Proofs.YtmllpkpdfhniaaaGreat
