/- The program's types.check, Check, plain, Plain: what each call answers, in whatever world. The program's types.Encode: what it answers, in whatever world. -/
import Derived.Test.YtmllpkpdfhniaaaGreatJAWords
import Derived.Test.YtmllpkpdfhniaaaGreatJAShelf
import Derived.Laws.RangeAny
set_option linter.unusedVariables false
set_option linter.unusedSimpArgs false
namespace Go.Proofs.YtmllpkpdfhniaaaGreat
open Go.RowKit

def badR (r : Nat) : Bool := decide (r < 32) || decide (126 < r)

theorem idx_bad (s : ByteArray) : ∀ (f pos : Nat), s.size ≤ pos + f → (0 ≤ Lib.idxFuncFrom badR true s f pos ↔ (s.data.toList.drop pos).any badU = true)
  | 0, pos, h => by
    have : s.data.toList.drop pos = [] := List.drop_eq_nil_of_le (by simpa using h)
    simp [Lib.idxFuncFrom, this]
  | f + 1, pos, h => by
    unfold Lib.idxFuncFrom
    by_cases hp : pos < s.size
    · have hl : pos < s.data.toList.length := by simpa using hp
      have hd : s.data.toList.drop pos = s[pos] :: s.data.toList.drop (pos + 1) := by rw [List.drop_eq_getElem_cons hl]; rfl
      rw [if_pos hp, hd, List.any_cons]
      by_cases h8 : (s[pos]'hp).toNat < 128
      · rw [decode_ascii s pos hp h8]
        have e : badR (s[pos]'hp).toNat = badU s[pos] := rfl
        simp only [e]
        cases hb : badU s[pos]
        · simpa using idx_bad s f (pos + 1) (by omega)
        · simp
      · have h2 := (decode_high s pos hp (by omega)).1
        have e1 : badR (Utf8.decode s pos).1 = true := by simp [badR]; omega
        have e2 : badU s[pos] = true := by simp [badU]; omega
        simp [e1, e2]
    · have : s.data.toList.drop pos = [] := List.drop_eq_nil_of_le (by simp; omega)
      simp [hp, this]

theorem idx_badT (s : ByteArray) : decide (0 ≤ Lib.idxFunc badR true s) = badT s := by
  have h := idx_bad s s.size 0 (by omega)
  rw [List.drop_zero] at h
  unfold Lib.idxFunc badT
  rw [Bool.eq_iff_iff, decide_eq_true_iff]
  exact h

theorem bad_pred (w : World) : PredAt Tryz.prog 198 #[] encR badR w := fun W r _ => by
  unfold FnGives
  by_cases h1 : r < 32 <;> by_cases h2 : 126 < r
  all_goals
    have z1 : (r : Int) < 32 ↔ r < 32 := by omega
    have z2 : 126 < (r : Int) ↔ 126 < r := by omega
    go_enter Tryz.func198, Tryz.ntmps198
    go_wp2
    all_goals first | (exfalso; omega) | (go_ret; exact ⟨by simp [badR, h1, h2], 0, rfl⟩)

/-- strings.ContainsFunc over check's own closure. -/
theorem contains_any (s : ByteArray) (w : World) : Calls Tryz.prog 197 #[.string s, .func (.func 198) #[] #[]] w fun e w' => e = .returned (.bool (badT s)) ∧ Fr w w' := by
  have h := Tryz.strings_ContainsFunc 198 #[] (enters_of Tryz.func198 (by kernel_rfl) rfl) badR s w (bad_pred w)
  rw [idx_badT] at h
  exact h

theorem check_none (t n : Int) (b : ByteArray) (h0 : 0 ≤ n) (hn : n ≤ 18446744073709551615) (h : isOf t = false) (w : World) :
    Calls Tryz.prog 153 #[.agg #[.int .i64 t, .int .u64 n, .string b]] w fun e w' => e = .returned (.int .i64 1) ∧ Fr w w' := by
  have H := of_any t
  have HC := contains_any b
  have HF := fun (h : szOf t = 1 ∨ szOf t = 2 ∨ szOf t = 4 ∨ szOf t = 8) => fits_any (szOf t) (sgOf t) true n h h0 hn
  clear HC HF
  go_enter Tryz.func153, Tryz.ntmps153
  go_wp2_with (first | (go_at_call 154; refine (H _).mono ?_; rintro e w1 ⟨rfl, hF1⟩; have hz1 := hF1.size; (try simp at hz1); (try (have hz1_0 : w.heap.size < w1.heap.size := (by omega))); have hc1 := hF1.cells; have hf1 := hF1.froz) | (go_at_call 196; refine (HF hF _).mono ?_; rintro e w2 ⟨rfl, hF2⟩; have hz2 := hF2.size; (try simp at hz2); (try (have hz2_0 : w.heap.size < w2.heap.size := (by omega))); (try (have hz2_1 : w1.heap.size < w2.heap.size := (by omega))); have hc2 := hF2.cells; have hf2 := hF2.froz) | (go_at_call 197; refine (HC _).mono ?_; rintro e w3 ⟨rfl, hF3⟩; have hz3 := hF3.size; (try simp at hz3); (try (have hz3_0 : w.heap.size < w3.heap.size := (by omega))); (try (have hz3_1 : w1.heap.size < w3.heap.size := (by omega))); have hc3 := hF3.cells; have hf3 := hF3.froz))
  go_ret
  exact ⟨rfl, by (repeat (with_reducible first | exact Fr.refl _ | assumption | refine Fr.alloc ?_ _ | refine Fr.drew ?_ | refine Fr.drewN ?_ _ | refine Fr.set ?_ (by first | (simp; done) | (simp; omega)) _ | refine Fr.trans ?_ (by assumption)))⟩
theorem check_long (t n : Int) (b : ByteArray) (h0 : 0 ≤ n) (hn : n ≤ 18446744073709551615) (h : isOf t = true) (hs : szOf t = 0) (hb : 65536 < (b.size : Int)) (w : World) :
    Calls Tryz.prog 153 #[.agg #[.int .i64 t, .int .u64 n, .string b]] w fun e w' => e = .returned (.int .i64 2) ∧ Fr w w' := by
  have H := of_any t
  have HC := contains_any b
  have HF := fun (h : szOf t = 1 ∨ szOf t = 2 ∨ szOf t = 4 ∨ szOf t = 8) => fits_any (szOf t) (sgOf t) true n h h0 hn
  rw [hs] at H
  clear HC HF hs
  go_enter Tryz.func153, Tryz.ntmps153
  go_wp2_with (first | (go_at_call 154; refine (H _).mono ?_; rintro e w1 ⟨rfl, hF1⟩; have hz1 := hF1.size; (try simp at hz1); (try (have hz1_0 : w.heap.size < w1.heap.size := (by omega))); have hc1 := hF1.cells; have hf1 := hF1.froz) | (go_at_call 196; refine (HF hF _).mono ?_; rintro e w2 ⟨rfl, hF2⟩; have hz2 := hF2.size; (try simp at hz2); (try (have hz2_0 : w.heap.size < w2.heap.size := (by omega))); (try (have hz2_1 : w1.heap.size < w2.heap.size := (by omega))); have hc2 := hF2.cells; have hf2 := hF2.froz) | (go_at_call 197; refine (HC _).mono ?_; rintro e w3 ⟨rfl, hF3⟩; have hz3 := hF3.size; (try simp at hz3); (try (have hz3_0 : w.heap.size < w3.heap.size := (by omega))); (try (have hz3_1 : w1.heap.size < w3.heap.size := (by omega))); have hc3 := hF3.cells; have hf3 := hF3.froz))
  go_ret
  exact ⟨rfl, by (repeat (with_reducible first | exact Fr.refl _ | assumption | refine Fr.alloc ?_ _ | refine Fr.drew ?_ | refine Fr.drewN ?_ _ | refine Fr.set ?_ (by first | (simp; done) | (simp; omega)) _ | refine Fr.trans ?_ (by assumption)))⟩
theorem check_unfit (t n : Int) (b : ByteArray) (h0 : 0 ≤ n) (hn : n ≤ 18446744073709551615) (h : isOf t = true) (hf : fitsV (szOf t) (sgOf t) n = false) (hs : 0 < szOf t) (w : World) :
    Calls Tryz.prog 153 #[.agg #[.int .i64 t, .int .u64 n, .string b]] w fun e w' => e = .returned (.int .i64 1) ∧ Fr w w' := by
  have H := of_any t
  have HC := contains_any b
  have HF := fun (h : szOf t = 1 ∨ szOf t = 2 ∨ szOf t = 4 ∨ szOf t = 8) => fits_any (szOf t) (sgOf t) true n h h0 hn
  have hF := (szOf_cases t).resolve_left (by omega)
  rw [hf] at HF
  have hs2 : (szOf t == 0) = false := by simp; omega
  clear HC hf
  go_enter Tryz.func153, Tryz.ntmps153
  go_wp2_with (first | (go_at_call 154; refine (H _).mono ?_; rintro e w1 ⟨rfl, hF1⟩; have hz1 := hF1.size; (try simp at hz1); (try (have hz1_0 : w.heap.size < w1.heap.size := (by omega))); have hc1 := hF1.cells; have hf1 := hF1.froz) | (go_at_call 196; refine (HF hF _).mono ?_; rintro e w2 ⟨rfl, hF2⟩; have hz2 := hF2.size; (try simp at hz2); (try (have hz2_0 : w.heap.size < w2.heap.size := (by omega))); (try (have hz2_1 : w1.heap.size < w2.heap.size := (by omega))); have hc2 := hF2.cells; have hf2 := hF2.froz) | (go_at_call 197; refine (HC _).mono ?_; rintro e w3 ⟨rfl, hF3⟩; have hz3 := hF3.size; (try simp at hz3); (try (have hz3_0 : w.heap.size < w3.heap.size := (by omega))); (try (have hz3_1 : w1.heap.size < w3.heap.size := (by omega))); have hc3 := hF3.cells; have hf3 := hF3.froz))
  go_ret
  exact ⟨rfl, by (repeat (with_reducible first | exact Fr.refl _ | assumption | refine Fr.alloc ?_ _ | refine Fr.drew ?_ | refine Fr.drewN ?_ _ | refine Fr.set ?_ (by first | (simp; done) | (simp; omega)) _ | refine Fr.trans ?_ (by assumption)))⟩
theorem check_bool (t n : Int) (b : ByteArray) (h0 : 0 ≤ n) (hn : n ≤ 18446744073709551615) (ht : t = 1) (hf : fitsV 1 false n = true) (h1 : 1 < n) (w : World) :
    Calls Tryz.prog 153 #[.agg #[.int .i64 t, .int .u64 n, .string b]] w fun e w' => e = .returned (.int .i64 1) ∧ Fr w w' := by
  have H := of_any t
  have HC := contains_any b
  have HF := fun (h : szOf t = 1 ∨ szOf t = 2 ∨ szOf t = 4 ∨ szOf t = 8) => fits_any (szOf t) (sgOf t) true n h h0 hn
  subst ht
  have e1 : szOf 1 = 1 := rfl
  have e2 : sgOf 1 = false := rfl
  have e3 : isOf 1 = true := rfl
  rw [e1, e2] at HF
  rw [e1, e2, e3] at H
  rw [hf] at HF
  have hF : (1 : Int) = 1 ∨ (1 : Int) = 2 ∨ (1 : Int) = 4 ∨ (1 : Int) = 8 := .inl rfl
  clear HC hf e1 e2 e3
  go_enter Tryz.func153, Tryz.ntmps153
  go_wp2_with (first | (go_at_call 154; refine (H _).mono ?_; rintro e w1 ⟨rfl, hF1⟩; have hz1 := hF1.size; (try simp at hz1); (try (have hz1_0 : w.heap.size < w1.heap.size := (by omega))); have hc1 := hF1.cells; have hf1 := hF1.froz) | (go_at_call 196; refine (HF hF _).mono ?_; rintro e w2 ⟨rfl, hF2⟩; have hz2 := hF2.size; (try simp at hz2); (try (have hz2_0 : w.heap.size < w2.heap.size := (by omega))); (try (have hz2_1 : w1.heap.size < w2.heap.size := (by omega))); have hc2 := hF2.cells; have hf2 := hF2.froz) | (go_at_call 197; refine (HC _).mono ?_; rintro e w3 ⟨rfl, hF3⟩; have hz3 := hF3.size; (try simp at hz3); (try (have hz3_0 : w.heap.size < w3.heap.size := (by omega))); (try (have hz3_1 : w1.heap.size < w3.heap.size := (by omega))); have hc3 := hF3.cells; have hf3 := hF3.froz))
  go_ret
  exact ⟨rfl, by (repeat (with_reducible first | exact Fr.refl _ | assumption | refine Fr.alloc ?_ _ | refine Fr.drew ?_ | refine Fr.drewN ?_ _ | refine Fr.set ?_ (by first | (simp; done) | (simp; omega)) _ | refine Fr.trans ?_ (by assumption)))⟩
theorem check_numone (t n : Int) (b : ByteArray) (h0 : 0 ≤ n) (hn : n ≤ 18446744073709551615) (ht : t = 1) (hf : fitsV 1 false n = true) (h1 : ¬ 1 < n) (w : World) :
    Calls Tryz.prog 153 #[.agg #[.int .i64 t, .int .u64 n, .string b]] w fun e w' => e = .returned (.int .i64 0) ∧ Fr w w' := by
  have H := of_any t
  have HC := contains_any b
  have HF := fun (h : szOf t = 1 ∨ szOf t = 2 ∨ szOf t = 4 ∨ szOf t = 8) => fits_any (szOf t) (sgOf t) true n h h0 hn
  subst ht
  have e1 : szOf 1 = 1 := rfl
  have e2 : sgOf 1 = false := rfl
  have e3 : isOf 1 = true := rfl
  rw [e1, e2] at HF
  rw [e1, e2, e3] at H
  rw [hf] at HF
  have hF : (1 : Int) = 1 ∨ (1 : Int) = 2 ∨ (1 : Int) = 4 ∨ (1 : Int) = 8 := .inl rfl
  clear HC hf e1 e2 e3
  go_enter Tryz.func153, Tryz.ntmps153
  go_wp2_with (first | (go_at_call 154; refine (H _).mono ?_; rintro e w1 ⟨rfl, hF1⟩; have hz1 := hF1.size; (try simp at hz1); (try (have hz1_0 : w.heap.size < w1.heap.size := (by omega))); have hc1 := hF1.cells; have hf1 := hF1.froz) | (go_at_call 196; refine (HF hF _).mono ?_; rintro e w2 ⟨rfl, hF2⟩; have hz2 := hF2.size; (try simp at hz2); (try (have hz2_0 : w.heap.size < w2.heap.size := (by omega))); (try (have hz2_1 : w1.heap.size < w2.heap.size := (by omega))); have hc2 := hF2.cells; have hf2 := hF2.froz) | (go_at_call 197; refine (HC _).mono ?_; rintro e w3 ⟨rfl, hF3⟩; have hz3 := hF3.size; (try simp at hz3); (try (have hz3_0 : w.heap.size < w3.heap.size := (by omega))); (try (have hz3_1 : w1.heap.size < w3.heap.size := (by omega))); have hc3 := hF3.cells; have hf3 := hF3.froz))
  go_ret
  exact ⟨rfl, by (repeat (with_reducible first | exact Fr.refl _ | assumption | refine Fr.alloc ?_ _ | refine Fr.drew ?_ | refine Fr.drewN ?_ _ | refine Fr.set ?_ (by first | (simp; done) | (simp; omega)) _ | refine Fr.trans ?_ (by assumption)))⟩
theorem check_num (t n : Int) (b : ByteArray) (h0 : 0 ≤ n) (hn : n ≤ 18446744073709551615) (ht : t ≠ 1) (h : isOf t = true) (hf : fitsV (szOf t) (sgOf t) n = true) (hs : 0 < szOf t) (h9 : t ≠ 9) (w : World) :
    Calls Tryz.prog 153 #[.agg #[.int .i64 t, .int .u64 n, .string b]] w fun e w' => e = .returned (.int .i64 0) ∧ Fr w w' := by
  have H := of_any t
  have HC := contains_any b
  have HF := fun (h : szOf t = 1 ∨ szOf t = 2 ∨ szOf t = 4 ∨ szOf t = 8) => fits_any (szOf t) (sgOf t) true n h h0 hn
  have hF := (szOf_cases t).resolve_left (by omega)
  rw [hf] at HF
  have hs2 : (szOf t == 0) = false := by simp; omega
  clear HC hf
  go_enter Tryz.func153, Tryz.ntmps153
  go_wp2_with (first | (go_at_call 154; refine (H _).mono ?_; rintro e w1 ⟨rfl, hF1⟩; have hz1 := hF1.size; (try simp at hz1); (try (have hz1_0 : w.heap.size < w1.heap.size := (by omega))); have hc1 := hF1.cells; have hf1 := hF1.froz) | (go_at_call 196; refine (HF hF _).mono ?_; rintro e w2 ⟨rfl, hF2⟩; have hz2 := hF2.size; (try simp at hz2); (try (have hz2_0 : w.heap.size < w2.heap.size := (by omega))); (try (have hz2_1 : w1.heap.size < w2.heap.size := (by omega))); have hc2 := hF2.cells; have hf2 := hF2.froz) | (go_at_call 197; refine (HC _).mono ?_; rintro e w3 ⟨rfl, hF3⟩; have hz3 := hF3.size; (try simp at hz3); (try (have hz3_0 : w.heap.size < w3.heap.size := (by omega))); (try (have hz3_1 : w1.heap.size < w3.heap.size := (by omega))); have hc3 := hF3.cells; have hf3 := hF3.froz))
  go_ret
  exact ⟨rfl, by (repeat (with_reducible first | exact Fr.refl _ | assumption | refine Fr.alloc ?_ _ | refine Fr.drew ?_ | refine Fr.drewN ?_ _ | refine Fr.set ?_ (by first | (simp; done) | (simp; omega)) _ | refine Fr.trans ?_ (by assumption)))⟩
theorem check_text (t n : Int) (b : ByteArray) (h0 : 0 ≤ n) (hn : n ≤ 18446744073709551615) (ht : t = 9) (hb : ¬ 65536 < (b.size : Int)) (hq : badT b = true) (w : World) :
    Calls Tryz.prog 153 #[.agg #[.int .i64 t, .int .u64 n, .string b]] w fun e w' => e = .returned (.int .i64 1) ∧ Fr w w' := by
  have H := of_any t
  have HC := contains_any b
  have HF := fun (h : szOf t = 1 ∨ szOf t = 2 ∨ szOf t = 4 ∨ szOf t = 8) => fits_any (szOf t) (sgOf t) true n h h0 hn
  subst ht
  have e1 : szOf 9 = 0 := rfl
  have e2 : sgOf 9 = false := rfl
  have e3 : isOf 9 = true := rfl
  rw [e1, e2, e3] at H
  rw [hq] at HC
  clear HF hq e1 e2 e3
  go_enter Tryz.func153, Tryz.ntmps153
  go_wp2_with (first | (go_at_call 154; refine (H _).mono ?_; rintro e w1 ⟨rfl, hF1⟩; have hz1 := hF1.size; (try simp at hz1); (try (have hz1_0 : w.heap.size < w1.heap.size := (by omega))); have hc1 := hF1.cells; have hf1 := hF1.froz) | (go_at_call 196; refine (HF hF _).mono ?_; rintro e w2 ⟨rfl, hF2⟩; have hz2 := hF2.size; (try simp at hz2); (try (have hz2_0 : w.heap.size < w2.heap.size := (by omega))); (try (have hz2_1 : w1.heap.size < w2.heap.size := (by omega))); have hc2 := hF2.cells; have hf2 := hF2.froz) | (go_at_call 197; refine (HC _).mono ?_; rintro e w3 ⟨rfl, hF3⟩; have hz3 := hF3.size; (try simp at hz3); (try (have hz3_0 : w.heap.size < w3.heap.size := (by omega))); (try (have hz3_1 : w1.heap.size < w3.heap.size := (by omega))); have hc3 := hF3.cells; have hf3 := hF3.froz))
  go_ret
  exact ⟨rfl, by (repeat (with_reducible first | exact Fr.refl _ | assumption | refine Fr.alloc ?_ _ | refine Fr.drew ?_ | refine Fr.drewN ?_ _ | refine Fr.set ?_ (by first | (simp; done) | (simp; omega)) _ | refine Fr.trans ?_ (by assumption)))⟩
theorem check_textok (t n : Int) (b : ByteArray) (h0 : 0 ≤ n) (hn : n ≤ 18446744073709551615) (ht : t = 9) (hb : ¬ 65536 < (b.size : Int)) (hq : badT b = false) (w : World) :
    Calls Tryz.prog 153 #[.agg #[.int .i64 t, .int .u64 n, .string b]] w fun e w' => e = .returned (.int .i64 0) ∧ Fr w w' := by
  have H := of_any t
  have HC := contains_any b
  have HF := fun (h : szOf t = 1 ∨ szOf t = 2 ∨ szOf t = 4 ∨ szOf t = 8) => fits_any (szOf t) (sgOf t) true n h h0 hn
  subst ht
  have e1 : szOf 9 = 0 := rfl
  have e2 : sgOf 9 = false := rfl
  have e3 : isOf 9 = true := rfl
  rw [e1, e2, e3] at H
  rw [hq] at HC
  clear HF hq e1 e2 e3
  go_enter Tryz.func153, Tryz.ntmps153
  go_wp2_with (first | (go_at_call 154; refine (H _).mono ?_; rintro e w1 ⟨rfl, hF1⟩; have hz1 := hF1.size; (try simp at hz1); (try (have hz1_0 : w.heap.size < w1.heap.size := (by omega))); have hc1 := hF1.cells; have hf1 := hF1.froz) | (go_at_call 196; refine (HF hF _).mono ?_; rintro e w2 ⟨rfl, hF2⟩; have hz2 := hF2.size; (try simp at hz2); (try (have hz2_0 : w.heap.size < w2.heap.size := (by omega))); (try (have hz2_1 : w1.heap.size < w2.heap.size := (by omega))); have hc2 := hF2.cells; have hf2 := hF2.froz) | (go_at_call 197; refine (HC _).mono ?_; rintro e w3 ⟨rfl, hF3⟩; have hz3 := hF3.size; (try simp at hz3); (try (have hz3_0 : w.heap.size < w3.heap.size := (by omega))); (try (have hz3_1 : w1.heap.size < w3.heap.size := (by omega))); have hc3 := hF3.cells; have hf3 := hF3.froz))
  go_ret
  exact ⟨rfl, by (repeat (with_reducible first | exact Fr.refl _ | assumption | refine Fr.alloc ?_ _ | refine Fr.drew ?_ | refine Fr.drewN ?_ _ | refine Fr.set ?_ (by first | (simp; done) | (simp; omega)) _ | refine Fr.trans ?_ (by assumption)))⟩
theorem check_bytes (t n : Int) (b : ByteArray) (h0 : 0 ≤ n) (hn : n ≤ 18446744073709551615) (h : isOf t = true) (hs : szOf t = 0) (h9 : t ≠ 9) (h1 : t ≠ 1) (hb : ¬ 65536 < (b.size : Int)) (w : World) :
    Calls Tryz.prog 153 #[.agg #[.int .i64 t, .int .u64 n, .string b]] w fun e w' => e = .returned (.int .i64 0) ∧ Fr w w' := by
  have H := of_any t
  have HC := contains_any b
  have HF := fun (h : szOf t = 1 ∨ szOf t = 2 ∨ szOf t = 4 ∨ szOf t = 8) => fits_any (szOf t) (sgOf t) true n h h0 hn
  rw [hs] at H
  clear HC HF hs
  go_enter Tryz.func153, Tryz.ntmps153
  go_wp2_with (first | (go_at_call 154; refine (H _).mono ?_; rintro e w1 ⟨rfl, hF1⟩; have hz1 := hF1.size; (try simp at hz1); (try (have hz1_0 : w.heap.size < w1.heap.size := (by omega))); have hc1 := hF1.cells; have hf1 := hF1.froz) | (go_at_call 196; refine (HF hF _).mono ?_; rintro e w2 ⟨rfl, hF2⟩; have hz2 := hF2.size; (try simp at hz2); (try (have hz2_0 : w.heap.size < w2.heap.size := (by omega))); (try (have hz2_1 : w1.heap.size < w2.heap.size := (by omega))); have hc2 := hF2.cells; have hf2 := hF2.froz) | (go_at_call 197; refine (HC _).mono ?_; rintro e w3 ⟨rfl, hF3⟩; have hz3 := hF3.size; (try simp at hz3); (try (have hz3_0 : w.heap.size < w3.heap.size := (by omega))); (try (have hz3_1 : w1.heap.size < w3.heap.size := (by omega))); have hc3 := hF3.cells; have hf3 := hF3.froz))
  go_ret
  exact ⟨rfl, by (repeat (with_reducible first | exact Fr.refl _ | assumption | refine Fr.alloc ?_ _ | refine Fr.drew ?_ | refine Fr.drewN ?_ _ | refine Fr.set ?_ (by first | (simp; done) | (simp; omega)) _ | refine Fr.trans ?_ (by assumption)))⟩

/-- types.check: what is wrong with a value. -/
theorem check_any (v : V) (hw : v.wf) (w : World) : Calls Tryz.prog 153 #[v.agg] w fun e w' => e = .returned (.int .i64 (chkV v)) ∧ Fr w w' := by
  obtain ⟨t, n, b⟩ := v
  obtain ⟨h0, hn⟩ := hw
  dsimp only at h0 hn
  unfold chkV V.agg
  dsimp only
  by_cases hi : isOf t = false
  · rw [if_pos hi]; exact check_none t n b h0 hn hi w
  rw [if_neg hi]
  have hi' : isOf t = true := by simpa using hi
  by_cases hs : 0 < szOf t
  · have hs0 : ¬ (szOf t = 0 ∧ 65536 < (b.size : Int)) := by omega
    rw [if_neg hs0]
    have h9 : t ≠ 9 := by rintro rfl; exact absurd hs (by decide)
    cases hf : fitsV (szOf t) (sgOf t) n
    · rw [if_pos (.inl ⟨hs, rfl⟩)]; exact check_unfit t n b h0 hn hi' hf hs w
    · by_cases h1 : t = 1
      · have hf' := hf
        rw [h1] at hf'
        by_cases hn1 : 1 < n
        · rw [if_pos (.inr ⟨h1, hn1⟩)]; exact check_bool t n b h0 hn h1 hf' hn1 w
        · rw [if_neg (by simp; intro _; omega), if_neg (by simp [h9])]; exact check_numone t n b h0 hn h1 hf' hn1 w
      · rw [if_neg (by simp [h1]), if_neg (by simp [h9])]; exact check_num t n b h0 hn h1 hi' hf hs h9 w
  · have hs0 : szOf t = 0 := by have := szOf_nonneg t; omega
    by_cases hb : 65536 < (b.size : Int)
    · rw [if_pos ⟨hs0, hb⟩]; exact check_long t n b h0 hn hi' hs0 hb w
    · have h1 : t ≠ 1 := by rintro rfl; exact absurd hs0 (by decide)
      rw [if_neg (by omega), if_neg (fun h => h.elim (fun h => by omega) (fun h => h1 h.1))]
      by_cases h9 : t = 9
      · cases hq : badT b
        · rw [if_neg (by simp)]; exact check_textok t n b h0 hn h9 hb hq w
        · rw [if_pos ⟨h9, rfl⟩]; exact check_text t n b h0 hn h9 hb hq w
      · rw [if_neg (by simp [h9])]; exact check_bytes t n b h0 hn hi' hs0 h9 h1 hb w


/-- types.Check. -/
theorem Check_any (v : V) (hw : v.wf) (w : World) : Calls Tryz.prog 113 #[v.agg] w fun e w' => e = .returned (.int .i64 (chkV v)) ∧ Fr w w' := by
  have H := check_any v hw
  generalize chkV v = c at H
  clear hw
  obtain ⟨t, n, b⟩ := v
  unfold V.agg at *
  dsimp only at *
  go_enter Tryz.func113, Tryz.ntmps113
  go_wp2_with (first | (go_at_call 153; refine (H _).mono ?_; rintro e w1 ⟨rfl, hF1⟩; have hz1 := hF1.size; (try simp at hz1); (try (have hz1_0 : w.heap.size < w1.heap.size := (by omega))); have hc1 := hF1.cells; have hf1 := hF1.froz))
  go_ret
  exact ⟨rfl, by (repeat (with_reducible first | exact Fr.refl _ | assumption | refine Fr.alloc ?_ _ | refine Fr.drew ?_ | refine Fr.drewN ?_ _ | refine Fr.set ?_ (by first | (simp; done) | (simp; omega)) _ | refine Fr.trans ?_ (by assumption)))⟩

theorem plain_num (t n : Int) (b : ByteArray) (hs : 0 < szOf t) (w : World) : Calls Tryz.prog 171 #[.agg #[.int .i64 t, .int .u64 n, .string b]] w fun e w' => e = .returned (V.agg ⟨t, n, noB⟩) ∧ Fr w w' := by
  have H := of_any t
  go_enter Tryz.func171, Tryz.ntmps171
  go_wp2_with (first | (go_at_call 154; refine (H _).mono ?_; rintro e w1 ⟨rfl, hF1⟩; have hz1 := hF1.size; (try simp at hz1); (try (have hz1_0 : w.heap.size < w1.heap.size := (by omega))); (try (have hz1_1 : w.heap.size + 1 < w1.heap.size := (by omega))); have hc1 := hF1.cells; have hf1 := hF1.froz; have hg1_0 : ∀ o, w1.frozen? ⟨w.heap.size, o, none⟩ = false := (by intro o; rw [hf1 _ _ (by first | (simp; done) | (simp; omega) | omega)]; (first | (simp; done) | (simp [*]; done) | go_simp)); have hk1_0 : w1.cell? ⟨w.heap.size, 0, none⟩ = some (.int .i64 t) := (by rw [hc1 _ _ (by first | (simp; done) | (simp; omega) | omega)]; (first | (simp; done) | (simp [*]; done) | go_simp)); have hk1_1 : w1.cell? ⟨w.heap.size, 1, none⟩ = some (.int .u64 n) := (by rw [hc1 _ _ (by first | (simp; done) | (simp; omega) | omega)]; (first | (simp; done) | (simp [*]; done) | go_simp)); have hk1_2 : w1.cell? ⟨w.heap.size, 2, none⟩ = some (.string b) := (by rw [hc1 _ _ (by first | (simp; done) | (simp; omega) | omega)]; (first | (simp; done) | (simp [*]; done) | go_simp)); have hg1_3 : ∀ o, w1.frozen? ⟨w.heap.size + 1, o, none⟩ = false := (by intro o; rw [hf1 _ _ (by first | (simp; done) | (simp; omega) | omega)]; (first | (simp; done) | (simp [*]; done) | go_simp)); have hk1_3 : w1.cell? ⟨w.heap.size + 1, 0, none⟩ = some (.int .i64 0) := (by rw [hc1 _ _ (by first | (simp; done) | (simp; omega) | omega)]; (first | (simp; done) | (simp [*]; done) | go_simp)); have hk1_4 : w1.cell? ⟨w.heap.size + 1, 1, none⟩ = some (.int .u64 0) := (by rw [hc1 _ _ (by first | (simp; done) | (simp; omega) | omega)]; (first | (simp; done) | (simp [*]; done) | go_simp)); have hk1_5 : w1.cell? ⟨w.heap.size + 1, 2, none⟩ = some (.string { data := #[] }) := (by rw [hc1 _ _ (by first | (simp; done) | (simp; omega) | omega)]; (first | (simp; done) | (simp [*]; done) | go_simp))))
  exact bodyPost_ret (v := V.agg ⟨t, n, noB⟩) (by simp [*, results, Tryz.results171, go_sem, V.agg, noB]) rfl ⟨rfl, by (repeat (with_reducible first | exact Fr.refl _ | assumption | refine Fr.alloc ?_ _ | refine Fr.drew ?_ | refine Fr.drewN ?_ _ | refine Fr.set ?_ (by first | (simp; done) | (simp; omega)) _ | refine Fr.trans ?_ (by assumption)))⟩
theorem plain_str (t n : Int) (b : ByteArray) (hs : szOf t = 0) (hi : isOf t = true) (w : World) : Calls Tryz.prog 171 #[.agg #[.int .i64 t, .int .u64 n, .string b]] w fun e w' => e = .returned (V.agg ⟨t, 0, b⟩) ∧ Fr w w' := by
  have H := of_any t
  rw [hs, hi] at H
  clear hs hi
  go_enter Tryz.func171, Tryz.ntmps171
  go_wp2_with (first | (go_at_call 154; refine (H _).mono ?_; rintro e w1 ⟨rfl, hF1⟩; have hz1 := hF1.size; (try simp at hz1); (try (have hz1_0 : w.heap.size < w1.heap.size := (by omega))); (try (have hz1_1 : w.heap.size + 1 < w1.heap.size := (by omega))); have hc1 := hF1.cells; have hf1 := hF1.froz; have hg1_0 : ∀ o, w1.frozen? ⟨w.heap.size, o, none⟩ = false := (by intro o; rw [hf1 _ _ (by first | (simp; done) | (simp; omega) | omega)]; (first | (simp; done) | (simp [*]; done) | go_simp)); have hk1_0 : w1.cell? ⟨w.heap.size, 0, none⟩ = some (.int .i64 t) := (by rw [hc1 _ _ (by first | (simp; done) | (simp; omega) | omega)]; (first | (simp; done) | (simp [*]; done) | go_simp)); have hk1_1 : w1.cell? ⟨w.heap.size, 1, none⟩ = some (.int .u64 n) := (by rw [hc1 _ _ (by first | (simp; done) | (simp; omega) | omega)]; (first | (simp; done) | (simp [*]; done) | go_simp)); have hk1_2 : w1.cell? ⟨w.heap.size, 2, none⟩ = some (.string b) := (by rw [hc1 _ _ (by first | (simp; done) | (simp; omega) | omega)]; (first | (simp; done) | (simp [*]; done) | go_simp)); have hg1_3 : ∀ o, w1.frozen? ⟨w.heap.size + 1, o, none⟩ = false := (by intro o; rw [hf1 _ _ (by first | (simp; done) | (simp; omega) | omega)]; (first | (simp; done) | (simp [*]; done) | go_simp)); have hk1_3 : w1.cell? ⟨w.heap.size + 1, 0, none⟩ = some (.int .i64 0) := (by rw [hc1 _ _ (by first | (simp; done) | (simp; omega) | omega)]; (first | (simp; done) | (simp [*]; done) | go_simp)); have hk1_4 : w1.cell? ⟨w.heap.size + 1, 1, none⟩ = some (.int .u64 0) := (by rw [hc1 _ _ (by first | (simp; done) | (simp; omega) | omega)]; (first | (simp; done) | (simp [*]; done) | go_simp)); have hk1_5 : w1.cell? ⟨w.heap.size + 1, 2, none⟩ = some (.string { data := #[] }) := (by rw [hc1 _ _ (by first | (simp; done) | (simp; omega) | omega)]; (first | (simp; done) | (simp [*]; done) | go_simp))))
  exact bodyPost_ret (v := V.agg ⟨t, 0, b⟩) (by simp [*, results, Tryz.results171, go_sem, V.agg, noB]) rfl ⟨rfl, by (repeat (with_reducible first | exact Fr.refl _ | assumption | refine Fr.alloc ?_ _ | refine Fr.drew ?_ | refine Fr.drewN ?_ _ | refine Fr.set ?_ (by first | (simp; done) | (simp; omega)) _ | refine Fr.trans ?_ (by assumption)))⟩
theorem plain_none (t n : Int) (b : ByteArray) (hs : szOf t = 0) (hi : isOf t = false) (w : World) : Calls Tryz.prog 171 #[.agg #[.int .i64 t, .int .u64 n, .string b]] w fun e w' => e = .returned (V.agg ⟨t, n, b⟩) ∧ Fr w w' := by
  have H := of_any t
  rw [hs, hi] at H
  clear hs hi
  go_enter Tryz.func171, Tryz.ntmps171
  go_wp2_with (first | (go_at_call 154; refine (H _).mono ?_; rintro e w1 ⟨rfl, hF1⟩; have hz1 := hF1.size; (try simp at hz1); (try (have hz1_0 : w.heap.size < w1.heap.size := (by omega))); (try (have hz1_1 : w.heap.size + 1 < w1.heap.size := (by omega))); have hc1 := hF1.cells; have hf1 := hF1.froz; have hg1_0 : ∀ o, w1.frozen? ⟨w.heap.size, o, none⟩ = false := (by intro o; rw [hf1 _ _ (by first | (simp; done) | (simp; omega) | omega)]; (first | (simp; done) | (simp [*]; done) | go_simp)); have hk1_0 : w1.cell? ⟨w.heap.size, 0, none⟩ = some (.int .i64 t) := (by rw [hc1 _ _ (by first | (simp; done) | (simp; omega) | omega)]; (first | (simp; done) | (simp [*]; done) | go_simp)); have hk1_1 : w1.cell? ⟨w.heap.size, 1, none⟩ = some (.int .u64 n) := (by rw [hc1 _ _ (by first | (simp; done) | (simp; omega) | omega)]; (first | (simp; done) | (simp [*]; done) | go_simp)); have hk1_2 : w1.cell? ⟨w.heap.size, 2, none⟩ = some (.string b) := (by rw [hc1 _ _ (by first | (simp; done) | (simp; omega) | omega)]; (first | (simp; done) | (simp [*]; done) | go_simp)); have hg1_3 : ∀ o, w1.frozen? ⟨w.heap.size + 1, o, none⟩ = false := (by intro o; rw [hf1 _ _ (by first | (simp; done) | (simp; omega) | omega)]; (first | (simp; done) | (simp [*]; done) | go_simp)); have hk1_3 : w1.cell? ⟨w.heap.size + 1, 0, none⟩ = some (.int .i64 0) := (by rw [hc1 _ _ (by first | (simp; done) | (simp; omega) | omega)]; (first | (simp; done) | (simp [*]; done) | go_simp)); have hk1_4 : w1.cell? ⟨w.heap.size + 1, 1, none⟩ = some (.int .u64 0) := (by rw [hc1 _ _ (by first | (simp; done) | (simp; omega) | omega)]; (first | (simp; done) | (simp [*]; done) | go_simp)); have hk1_5 : w1.cell? ⟨w.heap.size + 1, 2, none⟩ = some (.string { data := #[] }) := (by rw [hc1 _ _ (by first | (simp; done) | (simp; omega) | omega)]; (first | (simp; done) | (simp [*]; done) | go_simp))))
  exact bodyPost_ret (v := V.agg ⟨t, n, b⟩) (by simp [*, results, Tryz.results171, go_sem, V.agg, noB]) rfl ⟨rfl, by (repeat (with_reducible first | exact Fr.refl _ | assumption | refine Fr.alloc ?_ _ | refine Fr.drew ?_ | refine Fr.drewN ?_ _ | refine Fr.set ?_ (by first | (simp; done) | (simp; omega)) _ | refine Fr.trans ?_ (by assumption)))⟩
theorem plain_any (v : V) (w : World) : Calls Tryz.prog 171 #[v.agg] w fun e w' => e = .returned (plainV v).agg ∧ Fr w w' := by
  obtain ⟨t, n, b⟩ := v
  unfold plainV
  dsimp only
  by_cases hs : 0 < szOf t
  · rw [if_pos hs]; exact plain_num t n b hs w
  · have hs0 : szOf t = 0 := by have := szOf_nonneg t; omega
    rw [if_neg hs]
    cases hi : isOf t
    · rw [if_neg (by simp)]; exact plain_none t n b hs0 hi w
    · rw [if_pos rfl]; exact plain_str t n b hs0 hi w
theorem Plain_any (v : V) (w : World) : Calls Tryz.prog 114 #[v.agg] w fun e w' => e = .returned (plainV v).agg ∧ Fr w w' := by
  have H := plain_any v
  generalize plainV v = c at H
  obtain ⟨t, n, b⟩ := v
  obtain ⟨t', n', b'⟩ := c
  unfold V.agg at *
  dsimp only at *
  go_enter Tryz.func114, Tryz.ntmps114
  go_wp2_with (first | (go_at_call 171; refine (H _).mono ?_; rintro e w1 ⟨rfl, hF1⟩; have hz1 := hF1.size; (try simp at hz1); (try (have hz1_0 : w.heap.size < w1.heap.size := (by omega))); (try (have hz1_1 : w.heap.size + 1 < w1.heap.size := (by omega))); have hc1 := hF1.cells; have hf1 := hF1.froz; have hg1_0 : ∀ o, w1.frozen? ⟨w.heap.size + 1, o, none⟩ = false := (by intro o; rw [hf1 _ _ (by first | (simp; done) | (simp; omega) | omega)]; (first | (simp; done) | (simp [*]; done) | go_simp)); have hk1_0 : w1.cell? ⟨w.heap.size + 1, 0, none⟩ = some (.int .i64 0) := (by rw [hc1 _ _ (by first | (simp; done) | (simp; omega) | omega)]; (first | (simp; done) | (simp [*]; done) | go_simp)); have hk1_1 : w1.cell? ⟨w.heap.size + 1, 1, none⟩ = some (.int .u64 0) := (by rw [hc1 _ _ (by first | (simp; done) | (simp; omega) | omega)]; (first | (simp; done) | (simp [*]; done) | go_simp)); have hk1_2 : w1.cell? ⟨w.heap.size + 1, 2, none⟩ = some (.string { data := #[] }) := (by rw [hc1 _ _ (by first | (simp; done) | (simp; omega) | omega)]; (first | (simp; done) | (simp [*]; done) | go_simp))))
  exact bodyPost_ret (v := .agg #[.int .i64 t', .int .u64 n', .string b']) (by simp [*, results, Tryz.results114, go_sem]) rfl (⟨rfl, by (repeat (with_reducible first | exact Fr.refl _ | assumption | refine Fr.alloc ?_ _ | refine Fr.drew ?_ | refine Fr.drewN ?_ _ | refine Fr.set ?_ (by first | (simp; done) | (simp; omega)) _ | refine Fr.trans ?_ (by assumption)))⟩)

end Go.Proofs.YtmllpkpdfhniaaaGreat

namespace Go.Proofs.YtmllpkpdfhniaaaGreat
open Go.RowKit

theorem leB_bcs (n : Int) (h0 : 0 ≤ n) (k : Nat) : bcs (leB n k) = (List.range k).map (fun i => Value.int .u8 (n / 256 ^ i % 256)) := by
  unfold bcs leB
  rw [List.map_map]
  apply List.map_congr_left
  intro i _
  simp only [Function.comp]
  obtain ⟨m, rfl⟩ := Int.eq_ofNat_of_zero_le h0
  congr 1
  try simp
theorem leB_len (n : Int) (k : Nat) : (leB n k).length = k := by simp [leB]

theorem enc_err (t n : Int) (b : ByteArray) (c : Int) (hc : c ≠ 0) (HK : ∀ w, Calls Tryz.prog 153 #[.agg #[.int .i64 t, .int .u64 n, .string b]] w fun e w' => e = .returned (.int .i64 c) ∧ Fr w w') (w : World) :
    Calls Tryz.prog 99 #[.agg #[.int .i64 t, .int .u64 n, .string b]] w fun e w' => RetB c [] w e w' := by
  have hne := bne_true hc
  clear hc
  go_enter Tryz.func99, Tryz.ntmps99
  go_wp2_with (first | (go_at_call 153; refine (HK _).mono ?_; rintro e w1 ⟨rfl, hF1⟩; have hz1 := hF1.size; (try simp at hz1); (try (have hz1_0 : w.heap.size < w1.heap.size := (by omega))); have hc1 := hF1.cells; have hf1 := hF1.froz))
  go_ret2
  exact ⟨_, rfl, RdB.nil _, by (repeat (with_reducible first | exact Fr.refl _ | assumption | refine Fr.alloc ?_ _ | refine Fr.drew ?_ | refine Fr.drewN ?_ _ | refine Fr.set ?_ (by first | (simp; done) | (simp; omega)) _ | refine Fr.trans ?_ (by assumption)))⟩

theorem enc_str (t n : Int) (b : ByteArray) (hs : szOf t = 0) (hb : b.size ≤ 65536) (HK : ∀ w, Calls Tryz.prog 153 #[.agg #[.int .i64 t, .int .u64 n, .string b]] w fun e w' => e = .returned (.int .i64 0) ∧ Fr w w') (w : World) :
    Calls Tryz.prog 99 #[.agg #[.int .i64 t, .int .u64 n, .string b]] w fun e w' => RetB 0 b.data.toList w e w' := by
  have H := of_any t
  rw [hs] at H
  clear hs
  have hcv := fun W => Lib.run_convert_string_bytes (P := Tryz.prog) W 9 36 5 b Tryz.underlying9 Tryz.underlying36 Tryz.underlying5
  go_enter Tryz.func99, Tryz.ntmps99
  go_wp2_with (first | (go_at_call 153; refine (HK _).mono ?_; rintro e w1 ⟨rfl, hF1⟩; have hz1 := hF1.size; (try simp at hz1); (try (have hz1_0 : w.heap.size < w1.heap.size := (by omega))); have hc1 := hF1.cells; have hf1 := hF1.froz) | (go_at_call 154; refine (H _).mono ?_; rintro e w2 ⟨rfl, hF2⟩; have hz2 := hF2.size; (try simp at hz2); (try (have hz2_0 : w.heap.size < w2.heap.size := (by omega))); (try (have hz2_1 : w1.heap.size < w2.heap.size := (by omega))); have hc2 := hF2.cells; have hf2 := hF2.froz))
  go_ret2
  refine ⟨_, rfl, rd_bytes' _ _ b (by omega) (by simp), ?_⟩
  refine Fr.trans ?_ (fr_bytes _ _ _)
  (repeat (with_reducible first | exact Fr.refl _ | assumption | refine Fr.alloc ?_ _ | refine Fr.drew ?_ | refine Fr.drewN ?_ _ | refine Fr.set ?_ (by first | (simp; done) | (simp; omega)) _ | refine Fr.trans ?_ (by assumption)))

set_option maxHeartbeats 1000000 in
theorem enc_1 (t n : Int) (b : ByteArray) (h0 : 0 ≤ n) (hn : n ≤ 18446744073709551615) (hs : szOf t = 1) (HK : ∀ w, Calls Tryz.prog 153 #[.agg #[.int .i64 t, .int .u64 n, .string b]] w fun e w' => e = .returned (.int .i64 0) ∧ Fr w w') (w : World) :
    Calls Tryz.prog 99 #[.agg #[.int .i64 t, .int .u64 n, .string b]] w fun e w' => RetB 0 (leB n 1) w e w' := by
  have H := of_any t
  rw [hs] at H
  clear hs
  have hmk : ∀ w, (Instr.makeSlice 36 (.int .i64 1) (.int .i64 1)).run Tryz.prog w = .ok (.slice (some ⟨w.heap.size, 0, none⟩) 1 1) (w.alloc (.cells #[.int .u8 0] 5)) := fun _ => by kernel_rfl
  go_enter Tryz.func99, Tryz.ntmps99
  go_wp2_with (first | (go_at_call 153; refine (HK _).mono ?_; rintro e w1 ⟨rfl, hF1⟩; have hz1 := hF1.size; (try simp at hz1); (try (have hz1_0 : w.heap.size < w1.heap.size := (by omega))); have hc1 := hF1.cells; have hf1 := hF1.froz) | (go_at_call 154; refine (H _).mono ?_; rintro e w2 ⟨rfl, hF2⟩; have hz2 := hF2.size; (try simp at hz2); (try (have hz2_0 : w.heap.size < w2.heap.size := (by omega))); (try (have hz2_1 : w1.heap.size < w2.heap.size := (by omega))); have hc2 := hF2.cells; have hf2 := hF2.froz))
  refine wp_loop_rounds 2 ?_
  iterate 2 (rw [rounds_succ]; go_wp2)
  go_ret2
  exact ⟨_, rfl, Rd.of_block (t := 5) (fr := (0, 0)) (by simpa using heap_alloc_new (World.alloc _ _) _) (Nat.le_refl _) (by omega) (by simp [bcs, leB]) (by rw [leB_bcs n h0]; exact ⟨[], by first | (simp [List.range, List.range.loop]; done) | (simp [List.range, List.range.loop]; omega)⟩), by (repeat (with_reducible first | exact Fr.refl _ | assumption | refine Fr.alloc ?_ _ | refine Fr.drew ?_ | refine Fr.drewN ?_ _ | refine Fr.set ?_ (by first | (simp; done) | (simp; omega)) _ | refine Fr.trans ?_ (by assumption)))⟩
set_option maxHeartbeats 1000000 in
theorem enc_2 (t n : Int) (b : ByteArray) (h0 : 0 ≤ n) (hn : n ≤ 18446744073709551615) (hs : szOf t = 2) (HK : ∀ w, Calls Tryz.prog 153 #[.agg #[.int .i64 t, .int .u64 n, .string b]] w fun e w' => e = .returned (.int .i64 0) ∧ Fr w w') (w : World) :
    Calls Tryz.prog 99 #[.agg #[.int .i64 t, .int .u64 n, .string b]] w fun e w' => RetB 0 (leB n 2) w e w' := by
  have H := of_any t
  rw [hs] at H
  clear hs
  have hmk : ∀ w, (Instr.makeSlice 36 (.int .i64 2) (.int .i64 2)).run Tryz.prog w = .ok (.slice (some ⟨w.heap.size, 0, none⟩) 2 2) (w.alloc (.cells #[.int .u8 0, .int .u8 0] 5)) := fun _ => by kernel_rfl
  go_enter Tryz.func99, Tryz.ntmps99
  go_wp2_with (first | (go_at_call 153; refine (HK _).mono ?_; rintro e w1 ⟨rfl, hF1⟩; have hz1 := hF1.size; (try simp at hz1); (try (have hz1_0 : w.heap.size < w1.heap.size := (by omega))); have hc1 := hF1.cells; have hf1 := hF1.froz) | (go_at_call 154; refine (H _).mono ?_; rintro e w2 ⟨rfl, hF2⟩; have hz2 := hF2.size; (try simp at hz2); (try (have hz2_0 : w.heap.size < w2.heap.size := (by omega))); (try (have hz2_1 : w1.heap.size < w2.heap.size := (by omega))); have hc2 := hF2.cells; have hf2 := hF2.froz))
  refine wp_loop_rounds 3 ?_
  iterate 3 (rw [rounds_succ]; go_wp2)
  go_ret2
  exact ⟨_, rfl, Rd.of_block (t := 5) (fr := (0, 0)) (by simpa using heap_alloc_new (World.alloc _ _) _) (Nat.le_refl _) (by omega) (by simp [bcs, leB]) (by rw [leB_bcs n h0]; exact ⟨[], by first | (simp [List.range, List.range.loop]; done) | (simp [List.range, List.range.loop]; omega)⟩), by (repeat (with_reducible first | exact Fr.refl _ | assumption | refine Fr.alloc ?_ _ | refine Fr.drew ?_ | refine Fr.drewN ?_ _ | refine Fr.set ?_ (by first | (simp; done) | (simp; omega)) _ | refine Fr.trans ?_ (by assumption)))⟩
set_option maxHeartbeats 1000000 in
theorem enc_4 (t n : Int) (b : ByteArray) (h0 : 0 ≤ n) (hn : n ≤ 18446744073709551615) (hs : szOf t = 4) (HK : ∀ w, Calls Tryz.prog 153 #[.agg #[.int .i64 t, .int .u64 n, .string b]] w fun e w' => e = .returned (.int .i64 0) ∧ Fr w w') (w : World) :
    Calls Tryz.prog 99 #[.agg #[.int .i64 t, .int .u64 n, .string b]] w fun e w' => RetB 0 (leB n 4) w e w' := by
  have H := of_any t
  rw [hs] at H
  clear hs
  have hmk : ∀ w, (Instr.makeSlice 36 (.int .i64 4) (.int .i64 4)).run Tryz.prog w = .ok (.slice (some ⟨w.heap.size, 0, none⟩) 4 4) (w.alloc (.cells #[.int .u8 0, .int .u8 0, .int .u8 0, .int .u8 0] 5)) := fun _ => by kernel_rfl
  go_enter Tryz.func99, Tryz.ntmps99
  go_wp2_with (first | (go_at_call 153; refine (HK _).mono ?_; rintro e w1 ⟨rfl, hF1⟩; have hz1 := hF1.size; (try simp at hz1); (try (have hz1_0 : w.heap.size < w1.heap.size := (by omega))); have hc1 := hF1.cells; have hf1 := hF1.froz) | (go_at_call 154; refine (H _).mono ?_; rintro e w2 ⟨rfl, hF2⟩; have hz2 := hF2.size; (try simp at hz2); (try (have hz2_0 : w.heap.size < w2.heap.size := (by omega))); (try (have hz2_1 : w1.heap.size < w2.heap.size := (by omega))); have hc2 := hF2.cells; have hf2 := hF2.froz))
  refine wp_loop_rounds 5 ?_
  iterate 5 (rw [rounds_succ]; go_wp2)
  go_ret2
  exact ⟨_, rfl, Rd.of_block (t := 5) (fr := (0, 0)) (by simpa using heap_alloc_new (World.alloc _ _) _) (Nat.le_refl _) (by omega) (by simp [bcs, leB]) (by rw [leB_bcs n h0]; exact ⟨[], by first | (simp [List.range, List.range.loop]; done) | (simp [List.range, List.range.loop]; omega)⟩), by (repeat (with_reducible first | exact Fr.refl _ | assumption | refine Fr.alloc ?_ _ | refine Fr.drew ?_ | refine Fr.drewN ?_ _ | refine Fr.set ?_ (by first | (simp; done) | (simp; omega)) _ | refine Fr.trans ?_ (by assumption)))⟩
set_option maxHeartbeats 1000000 in
theorem enc_8 (t n : Int) (b : ByteArray) (h0 : 0 ≤ n) (hn : n ≤ 18446744073709551615) (hs : szOf t = 8) (HK : ∀ w, Calls Tryz.prog 153 #[.agg #[.int .i64 t, .int .u64 n, .string b]] w fun e w' => e = .returned (.int .i64 0) ∧ Fr w w') (w : World) :
    Calls Tryz.prog 99 #[.agg #[.int .i64 t, .int .u64 n, .string b]] w fun e w' => RetB 0 (leB n 8) w e w' := by
  have H := of_any t
  rw [hs] at H
  clear hs
  have hmk : ∀ w, (Instr.makeSlice 36 (.int .i64 8) (.int .i64 8)).run Tryz.prog w = .ok (.slice (some ⟨w.heap.size, 0, none⟩) 8 8) (w.alloc (.cells #[.int .u8 0, .int .u8 0, .int .u8 0, .int .u8 0, .int .u8 0, .int .u8 0, .int .u8 0, .int .u8 0] 5)) := fun _ => by kernel_rfl
  go_enter Tryz.func99, Tryz.ntmps99
  go_wp2_with (first | (go_at_call 153; refine (HK _).mono ?_; rintro e w1 ⟨rfl, hF1⟩; have hz1 := hF1.size; (try simp at hz1); (try (have hz1_0 : w.heap.size < w1.heap.size := (by omega))); have hc1 := hF1.cells; have hf1 := hF1.froz) | (go_at_call 154; refine (H _).mono ?_; rintro e w2 ⟨rfl, hF2⟩; have hz2 := hF2.size; (try simp at hz2); (try (have hz2_0 : w.heap.size < w2.heap.size := (by omega))); (try (have hz2_1 : w1.heap.size < w2.heap.size := (by omega))); have hc2 := hF2.cells; have hf2 := hF2.froz))
  refine wp_loop_rounds 9 ?_
  iterate 9 (rw [rounds_succ]; go_wp2)
  go_ret2
  exact ⟨_, rfl, Rd.of_block (t := 5) (fr := (0, 0)) (by simpa using heap_alloc_new (World.alloc _ _) _) (Nat.le_refl _) (by omega) (by simp [bcs, leB]) (by rw [leB_bcs n h0]; exact ⟨[], by first | (simp [List.range, List.range.loop]; done) | (simp [List.range, List.range.loop]; omega)⟩), by (repeat (with_reducible first | exact Fr.refl _ | assumption | refine Fr.alloc ?_ _ | refine Fr.drew ?_ | refine Fr.drewN ?_ _ | refine Fr.set ?_ (by first | (simp; done) | (simp; omega)) _ | refine Fr.trans ?_ (by assumption)))⟩

/-- types.Encode: a value's bytes. -/
theorem encode_any (v : V) (hw : v.wf) (w : World) : Calls Tryz.prog 99 #[v.agg] w fun e w' => RetB (chkV v) (if chkV v = 0 then encV v else []) w e w' := by
  have HK := check_any v hw
  by_cases hc : chkV v = 0
  · rw [if_pos hc, hc]
    rw [hc] at HK
    obtain ⟨t, n, b⟩ := v
    obtain ⟨h0, hn⟩ := hw
    unfold encV
    dsimp only at *
    by_cases hs : szOf t = 0
    · rw [if_pos hs]
      refine enc_str t n b hs ?_ HK w
      unfold chkV at hc
      dsimp only at hc
      rcases Nat.lt_or_ge 65536 b.size with hb | hb
      · exfalso
        split at hc
        · cases hc
        · rw [if_pos ⟨hs, by omega⟩] at hc; cases hc
      · exact hb
    · rw [if_neg hs]
      rcases (szOf_cases t).resolve_left hs with h | h | h | h <;> simp only [h]
      · exact enc_1 t n b h0 hn h HK w
      · exact enc_2 t n b h0 hn h HK w
      · exact enc_4 t n b h0 hn h HK w
      · exact enc_8 t n b h0 hn h HK w
  · rw [if_neg hc]
    obtain ⟨t, n, b⟩ := v
    exact enc_err t n b _ hc HK w

end Go.Proofs.YtmllpkpdfhniaaaGreat
