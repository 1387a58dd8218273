/- The document's types (ref07): Order. -/
import Derived.Test.YtmllpkpdfhniaaaGreatJARfH
import Derived.Test.YtmllpkpdfhniaaaGreatJATyE
set_option linter.unusedVariables false
set_option linter.unusedSimpArgs false
namespace Go.Proofs.YtmllpkpdfhniaaaGreat
open Go.RowKit

theorem less_cmp : ∀ l m : List UInt8, Op.bytesLess l m = decide (Lib.compareBytes l m = -1)
  | [], [] => by simp [Op.bytesLess, Lib.compareBytes]
  | [], y :: m => by simp [Op.bytesLess, Lib.compareBytes]
  | x :: l, [] => by simp [Op.bytesLess, Lib.compareBytes]
  | x :: l, y :: m => by
    unfold Op.bytesLess Lib.compareBytes
    by_cases h : x < y
    · simp [h]
    · by_cases h2 : y < x
      · have hne : (x == y) = false := by
          rw [beq_eq_false_iff_ne]
          rintro rfl
          exact h h2
        simp [h, h2, hne]
      · have he : x = y := UInt8.le_antisymm (UInt8.not_lt.1 h2) (UInt8.not_lt.1 h)
        subst he
        simp [h, less_cmp l m]
theorem cmp_self : ∀ l : List UInt8, Lib.compareBytes l l = 0
  | [] => rfl
  | x :: l => by simp [Lib.compareBytes, cmp_self l]
theorem cmp_zero : ∀ l m : List UInt8, Lib.compareBytes l m = 0 → l = m
  | [], [], _ => rfl
  | [], y :: m, h => by simp [Lib.compareBytes] at h
  | x :: l, [], h => by simp [Lib.compareBytes] at h
  | x :: l, y :: m, h => by
    unfold Lib.compareBytes at h
    by_cases h1 : x < y
    · simp [h1] at h
    · by_cases h2 : y < x
      · simp [h1, h2] at h
      · have he : x = y := UInt8.le_antisymm (UInt8.not_lt.1 h2) (UInt8.not_lt.1 h1)
        simp [h1, h2] at h
        rw [he, cmp_zero l m h]
theorem cmp_cases : ∀ l m : List UInt8, Lib.compareBytes l m = -1 ∨ Lib.compareBytes l m = 0 ∨ Lib.compareBytes l m = 1
  | [], [] => by simp [Lib.compareBytes]
  | [], y :: m => by simp [Lib.compareBytes]
  | x :: l, [] => by simp [Lib.compareBytes]
  | x :: l, y :: m => by
    unfold Lib.compareBytes
    by_cases h1 : x < y
    · simp [h1]
    · by_cases h2 : y < x
      · simp [h1, h2]
      · simp only [h1, h2, if_false]; exact cmp_cases l m
theorem toList_data (b : ByteArray) : b.toList = b.data.toList := ByteArray.toList_eq b

/-- A number, its highest bit turned. -/
def xN (n : Int) : Int := if 9223372036854775808 ≤ n then n - 9223372036854775808 else n + 9223372036854775808
theorem xor_top (n : Int) (h0 : 0 ≤ n) (hn : n ≤ 18446744073709551615) : bits .xor .u64 n 9223372036854775808 = xN n := by
  obtain ⟨m, rfl⟩ := Int.eq_ofNat_of_zero_le h0
  have := u64_xor_nat m 9223372036854775808 (by omega) (by omega)
  rw [show ((9223372036854775808 : Nat) : Int) = 9223372036854775808 from rfl] at this
  refine Eq.trans this ?_
  unfold xN
  have e : m ^^^ 2 ^ 63 = if 2 ^ 63 ≤ m then m - 2 ^ 63 else m + 2 ^ 63 := by
    have hb : m / 2 ^ 63 = 0 ∨ m / 2 ^ 63 = 1 := by omega
    have h1 : (m ^^^ 2 ^ 63) % 2 ^ 63 = m % 2 ^ 63 := by
      rw [Nat.xor_mod_two_pow]; simp
    have h2 : (m ^^^ 2 ^ 63) / 2 ^ 63 = (m / 2 ^ 63) ^^^ 1 := by
      rw [← Nat.shiftRight_eq_div_pow, Nat.shiftRight_xor_distrib, Nat.shiftRight_eq_div_pow, Nat.shiftRight_eq_div_pow]
    generalize m ^^^ 2 ^ 63 = y at *
    rcases hb with hb | hb
    · rw [hb, show (0 : Nat) ^^^ 1 = 1 from rfl] at h2
      split <;> omega
    · rw [hb, show (1 : Nat) ^^^ 1 = 0 from rfl] at h2
      split <;> omega
  have e2 : m ^^^ 9223372036854775808 = if 9223372036854775808 ≤ m then m - 9223372036854775808 else m + 9223372036854775808 := e
  rw [e2]
  split <;> split <;> omega
theorem cmp_xN (n m : Int) (h0 : 0 ≤ n) (hn : n ≤ 18446744073709551615) (h0' : 0 ≤ m) (hm : m ≤ 18446744073709551615) : cmpI (sN n) (sN m) = cmpI (xN n) (xN m) := by
  have e : ∀ k : Int, sN k = xN k - 9223372036854775808 := fun k => by unfold sN xN; split <;> omega
  unfold cmpI
  rw [e n, e m]
  by_cases h1 : xN n < xN m
  · rw [if_pos h1, if_pos (by omega)]
  · rw [if_neg h1, if_neg (by omega)]
    by_cases h2 : xN m < xN n
    · rw [if_pos h2, if_pos (by omega)]
    · rw [if_neg h2, if_neg (by omega)]

section
variable (t n : Int) (b : ByteArray) (t' n' : Int) (b' : ByteArray) (w : World)
theorem rord_a (k : Int) (hk : (k != 0) = true) (HK : ∀ w, Calls Tryz.prog 115 #[.agg #[.int .i64 t, .int .u64 n, .string b]] w fun e w' => e = .returned (.int .i64 k) ∧ Fr w w') : Calls Tryz.prog 184 #[.agg #[.int .i64 t, .int .u64 n, .string b], .agg #[.int .i64 t', .int .u64 n', .string b']] w fun e w' => RetI 0 k w e w' := by
  go_enter Tryz.func184, Tryz.ntmps184
  go_wp2_with fail
  refine (HK _).mono ?_
  rintro e w1 ⟨rfl, hF1⟩
  have hz1 := hF1.size; (try simp at hz1)
  (try (have hz1_0 : w.heap.size < w1.heap.size := (by omega)))
  (try (have hz1_1 : w.heap.size + 1 < w1.heap.size := (by omega)))
  have hc1 := hF1.cells
  have hf1 := hF1.froz
  have hg1_0 : ∀ o, w1.frozen? ⟨w.heap.size, o, none⟩ = false := (by intro o; rw [hf1 _ _ (by first | (simp; done) | (simp; omega) | omega)]; (first | (simp; done) | (simp [*]; done) | go_simp))
  have hk1_0 : w1.cell? ⟨w.heap.size, 0, none⟩ = some (.int .i64 t) := (by rw [hc1 _ _ (by first | (simp; done) | (simp; omega) | omega)]; (first | (simp; done) | (simp [*]; done) | go_simp))
  have hk1_1 : w1.cell? ⟨w.heap.size, 1, none⟩ = some (.int .u64 n) := (by rw [hc1 _ _ (by first | (simp; done) | (simp; omega) | omega)]; (first | (simp; done) | (simp [*]; done) | go_simp))
  have hk1_2 : w1.cell? ⟨w.heap.size, 2, none⟩ = some (.string b) := (by rw [hc1 _ _ (by first | (simp; done) | (simp; omega) | omega)]; (first | (simp; done) | (simp [*]; done) | go_simp))
  have hg1_3 : ∀ o, w1.frozen? ⟨w.heap.size + 1, o, none⟩ = false := (by intro o; rw [hf1 _ _ (by first | (simp; done) | (simp; omega) | omega)]; (first | (simp; done) | (simp [*]; done) | go_simp))
  have hk1_3 : w1.cell? ⟨w.heap.size + 1, 0, none⟩ = some (.int .i64 t') := (by rw [hc1 _ _ (by first | (simp; done) | (simp; omega) | omega)]; (first | (simp; done) | (simp [*]; done) | go_simp))
  have hk1_4 : w1.cell? ⟨w.heap.size + 1, 1, none⟩ = some (.int .u64 n') := (by rw [hc1 _ _ (by first | (simp; done) | (simp; omega) | omega)]; (first | (simp; done) | (simp [*]; done) | go_simp))
  have hk1_5 : w1.cell? ⟨w.heap.size + 1, 2, none⟩ = some (.string b') := (by rw [hc1 _ _ (by first | (simp; done) | (simp; omega) | omega)]; (first | (simp; done) | (simp [*]; done) | go_simp))
  go_wp2_with fail
  go_ret2
  exact RetI.mk' rfl rfl (by (repeat (with_reducible first | exact Fr.refl _ | assumption | refine Fr.alloc ?_ _ | refine Fr.drew ?_ | refine Fr.drewN ?_ _ | refine Fr.set ?_ (by first | (simp; done) | (simp; omega)) _ | refine Fr.trans ?_ (by assumption))))
theorem rord_b (k : Int) (hk : (k != 0) = true) (HK : ∀ w, Calls Tryz.prog 115 #[.agg #[.int .i64 t, .int .u64 n, .string b]] w fun e w' => e = .returned (.int .i64 0) ∧ Fr w w') (HK' : ∀ w, Calls Tryz.prog 115 #[.agg #[.int .i64 t', .int .u64 n', .string b']] w fun e w' => e = .returned (.int .i64 k) ∧ Fr w w') : Calls Tryz.prog 184 #[.agg #[.int .i64 t, .int .u64 n, .string b], .agg #[.int .i64 t', .int .u64 n', .string b']] w fun e w' => RetI 0 k w e w' := by
  go_enter Tryz.func184, Tryz.ntmps184
  go_wp2_with fail
  refine (HK _).mono ?_
  rintro e w1 ⟨rfl, hF1⟩
  have hz1 := hF1.size; (try simp at hz1)
  (try (have hz1_0 : w.heap.size < w1.heap.size := (by omega)))
  (try (have hz1_1 : w.heap.size + 1 < w1.heap.size := (by omega)))
  have hc1 := hF1.cells
  have hf1 := hF1.froz
  have hg1_0 : ∀ o, w1.frozen? ⟨w.heap.size, o, none⟩ = false := (by intro o; rw [hf1 _ _ (by first | (simp; done) | (simp; omega) | omega)]; (first | (simp; done) | (simp [*]; done) | go_simp))
  have hk1_0 : w1.cell? ⟨w.heap.size, 0, none⟩ = some (.int .i64 t) := (by rw [hc1 _ _ (by first | (simp; done) | (simp; omega) | omega)]; (first | (simp; done) | (simp [*]; done) | go_simp))
  have hk1_1 : w1.cell? ⟨w.heap.size, 1, none⟩ = some (.int .u64 n) := (by rw [hc1 _ _ (by first | (simp; done) | (simp; omega) | omega)]; (first | (simp; done) | (simp [*]; done) | go_simp))
  have hk1_2 : w1.cell? ⟨w.heap.size, 2, none⟩ = some (.string b) := (by rw [hc1 _ _ (by first | (simp; done) | (simp; omega) | omega)]; (first | (simp; done) | (simp [*]; done) | go_simp))
  have hg1_3 : ∀ o, w1.frozen? ⟨w.heap.size + 1, o, none⟩ = false := (by intro o; rw [hf1 _ _ (by first | (simp; done) | (simp; omega) | omega)]; (first | (simp; done) | (simp [*]; done) | go_simp))
  have hk1_3 : w1.cell? ⟨w.heap.size + 1, 0, none⟩ = some (.int .i64 t') := (by rw [hc1 _ _ (by first | (simp; done) | (simp; omega) | omega)]; (first | (simp; done) | (simp [*]; done) | go_simp))
  have hk1_4 : w1.cell? ⟨w.heap.size + 1, 1, none⟩ = some (.int .u64 n') := (by rw [hc1 _ _ (by first | (simp; done) | (simp; omega) | omega)]; (first | (simp; done) | (simp [*]; done) | go_simp))
  have hk1_5 : w1.cell? ⟨w.heap.size + 1, 2, none⟩ = some (.string b') := (by rw [hc1 _ _ (by first | (simp; done) | (simp; omega) | omega)]; (first | (simp; done) | (simp [*]; done) | go_simp))
  go_wp2_with fail
  refine (HK' _).mono ?_
  rintro e w2 ⟨rfl, hF2⟩
  have hz2 := hF2.size; (try simp at hz2)
  (try (have hz2_0 : w.heap.size < w2.heap.size := (by omega)))
  (try (have hz2_1 : w.heap.size + 1 < w2.heap.size := (by omega)))
  have hc2 := hF2.cells
  have hf2 := hF2.froz
  have hg2_0 : ∀ o, w2.frozen? ⟨w.heap.size, o, none⟩ = false := (by intro o; rw [hf2 _ _ (by first | (simp; done) | (simp; omega) | omega)]; (first | (simp; done) | (simp [*]; done) | go_simp))
  have hk2_0 : w2.cell? ⟨w.heap.size, 0, none⟩ = some (.int .i64 t) := (by rw [hc2 _ _ (by first | (simp; done) | (simp; omega) | omega)]; (first | (simp; done) | (simp [*]; done) | go_simp))
  have hk2_1 : w2.cell? ⟨w.heap.size, 1, none⟩ = some (.int .u64 n) := (by rw [hc2 _ _ (by first | (simp; done) | (simp; omega) | omega)]; (first | (simp; done) | (simp [*]; done) | go_simp))
  have hk2_2 : w2.cell? ⟨w.heap.size, 2, none⟩ = some (.string b) := (by rw [hc2 _ _ (by first | (simp; done) | (simp; omega) | omega)]; (first | (simp; done) | (simp [*]; done) | go_simp))
  have hg2_3 : ∀ o, w2.frozen? ⟨w.heap.size + 1, o, none⟩ = false := (by intro o; rw [hf2 _ _ (by first | (simp; done) | (simp; omega) | omega)]; (first | (simp; done) | (simp [*]; done) | go_simp))
  have hk2_3 : w2.cell? ⟨w.heap.size + 1, 0, none⟩ = some (.int .i64 t') := (by rw [hc2 _ _ (by first | (simp; done) | (simp; omega) | omega)]; (first | (simp; done) | (simp [*]; done) | go_simp))
  have hk2_4 : w2.cell? ⟨w.heap.size + 1, 1, none⟩ = some (.int .u64 n') := (by rw [hc2 _ _ (by first | (simp; done) | (simp; omega) | omega)]; (first | (simp; done) | (simp [*]; done) | go_simp))
  have hk2_5 : w2.cell? ⟨w.heap.size + 1, 2, none⟩ = some (.string b') := (by rw [hc2 _ _ (by first | (simp; done) | (simp; omega) | omega)]; (first | (simp; done) | (simp [*]; done) | go_simp))
  go_wp2_with fail
  go_ret2
  exact RetI.mk' rfl rfl (by (repeat (with_reducible first | exact Fr.refl _ | assumption | refine Fr.alloc ?_ _ | refine Fr.drew ?_ | refine Fr.drewN ?_ _ | refine Fr.set ?_ (by first | (simp; done) | (simp; omega)) _ | refine Fr.trans ?_ (by assumption))))
theorem rord_diff (ht : (t != t') = true) (HK : ∀ w, Calls Tryz.prog 115 #[.agg #[.int .i64 t, .int .u64 n, .string b]] w fun e w' => e = .returned (.int .i64 0) ∧ Fr w w') (HK' : ∀ w, Calls Tryz.prog 115 #[.agg #[.int .i64 t', .int .u64 n', .string b']] w fun e w' => e = .returned (.int .i64 0) ∧ Fr w w') : Calls Tryz.prog 184 #[.agg #[.int .i64 t, .int .u64 n, .string b], .agg #[.int .i64 t', .int .u64 n', .string b']] w fun e w' => RetI 0 1 w e w' := by
  go_enter Tryz.func184, Tryz.ntmps184
  go_wp2_with fail
  refine (HK _).mono ?_
  rintro e w1 ⟨rfl, hF1⟩
  have hz1 := hF1.size; (try simp at hz1)
  (try (have hz1_0 : w.heap.size < w1.heap.size := (by omega)))
  (try (have hz1_1 : w.heap.size + 1 < w1.heap.size := (by omega)))
  have hc1 := hF1.cells
  have hf1 := hF1.froz
  have hg1_0 : ∀ o, w1.frozen? ⟨w.heap.size, o, none⟩ = false := (by intro o; rw [hf1 _ _ (by first | (simp; done) | (simp; omega) | omega)]; (first | (simp; done) | (simp [*]; done) | go_simp))
  have hk1_0 : w1.cell? ⟨w.heap.size, 0, none⟩ = some (.int .i64 t) := (by rw [hc1 _ _ (by first | (simp; done) | (simp; omega) | omega)]; (first | (simp; done) | (simp [*]; done) | go_simp))
  have hk1_1 : w1.cell? ⟨w.heap.size, 1, none⟩ = some (.int .u64 n) := (by rw [hc1 _ _ (by first | (simp; done) | (simp; omega) | omega)]; (first | (simp; done) | (simp [*]; done) | go_simp))
  have hk1_2 : w1.cell? ⟨w.heap.size, 2, none⟩ = some (.string b) := (by rw [hc1 _ _ (by first | (simp; done) | (simp; omega) | omega)]; (first | (simp; done) | (simp [*]; done) | go_simp))
  have hg1_3 : ∀ o, w1.frozen? ⟨w.heap.size + 1, o, none⟩ = false := (by intro o; rw [hf1 _ _ (by first | (simp; done) | (simp; omega) | omega)]; (first | (simp; done) | (simp [*]; done) | go_simp))
  have hk1_3 : w1.cell? ⟨w.heap.size + 1, 0, none⟩ = some (.int .i64 t') := (by rw [hc1 _ _ (by first | (simp; done) | (simp; omega) | omega)]; (first | (simp; done) | (simp [*]; done) | go_simp))
  have hk1_4 : w1.cell? ⟨w.heap.size + 1, 1, none⟩ = some (.int .u64 n') := (by rw [hc1 _ _ (by first | (simp; done) | (simp; omega) | omega)]; (first | (simp; done) | (simp [*]; done) | go_simp))
  have hk1_5 : w1.cell? ⟨w.heap.size + 1, 2, none⟩ = some (.string b') := (by rw [hc1 _ _ (by first | (simp; done) | (simp; omega) | omega)]; (first | (simp; done) | (simp [*]; done) | go_simp))
  go_wp2_with fail
  refine (HK' _).mono ?_
  rintro e w2 ⟨rfl, hF2⟩
  have hz2 := hF2.size; (try simp at hz2)
  (try (have hz2_0 : w.heap.size < w2.heap.size := (by omega)))
  (try (have hz2_1 : w.heap.size + 1 < w2.heap.size := (by omega)))
  have hc2 := hF2.cells
  have hf2 := hF2.froz
  have hg2_0 : ∀ o, w2.frozen? ⟨w.heap.size, o, none⟩ = false := (by intro o; rw [hf2 _ _ (by first | (simp; done) | (simp; omega) | omega)]; (first | (simp; done) | (simp [*]; done) | go_simp))
  have hk2_0 : w2.cell? ⟨w.heap.size, 0, none⟩ = some (.int .i64 t) := (by rw [hc2 _ _ (by first | (simp; done) | (simp; omega) | omega)]; (first | (simp; done) | (simp [*]; done) | go_simp))
  have hk2_1 : w2.cell? ⟨w.heap.size, 1, none⟩ = some (.int .u64 n) := (by rw [hc2 _ _ (by first | (simp; done) | (simp; omega) | omega)]; (first | (simp; done) | (simp [*]; done) | go_simp))
  have hk2_2 : w2.cell? ⟨w.heap.size, 2, none⟩ = some (.string b) := (by rw [hc2 _ _ (by first | (simp; done) | (simp; omega) | omega)]; (first | (simp; done) | (simp [*]; done) | go_simp))
  have hg2_3 : ∀ o, w2.frozen? ⟨w.heap.size + 1, o, none⟩ = false := (by intro o; rw [hf2 _ _ (by first | (simp; done) | (simp; omega) | omega)]; (first | (simp; done) | (simp [*]; done) | go_simp))
  have hk2_3 : w2.cell? ⟨w.heap.size + 1, 0, none⟩ = some (.int .i64 t') := (by rw [hc2 _ _ (by first | (simp; done) | (simp; omega) | omega)]; (first | (simp; done) | (simp [*]; done) | go_simp))
  have hk2_4 : w2.cell? ⟨w.heap.size + 1, 1, none⟩ = some (.int .u64 n') := (by rw [hc2 _ _ (by first | (simp; done) | (simp; omega) | omega)]; (first | (simp; done) | (simp [*]; done) | go_simp))
  have hk2_5 : w2.cell? ⟨w.heap.size + 1, 2, none⟩ = some (.string b') := (by rw [hc2 _ _ (by first | (simp; done) | (simp; omega) | omega)]; (first | (simp; done) | (simp [*]; done) | go_simp))
  go_wp2_with fail
  go_ret2
  exact RetI.mk' rfl rfl (by (repeat (with_reducible first | exact Fr.refl _ | assumption | refine Fr.alloc ?_ _ | refine Fr.drew ?_ | refine Fr.drewN ?_ _ | refine Fr.set ?_ (by first | (simp; done) | (simp; omega)) _ | refine Fr.trans ?_ (by assumption))))
set_option maxHeartbeats 1000000 in
theorem rord_ult (ht : (t != t') = false) (s : Int) (hs : (s == 0) = false) (h1 : n < n') (HK : ∀ w, Calls Tryz.prog 115 #[.agg #[.int .i64 t, .int .u64 n, .string b]] w fun e w' => e = .returned (.int .i64 0) ∧ Fr w w') (HK' : ∀ w, Calls Tryz.prog 115 #[.agg #[.int .i64 t', .int .u64 n', .string b']] w fun e w' => e = .returned (.int .i64 0) ∧ Fr w w') (HG : ∀ w, Calls Tryz.prog 203 #[.int .i64 t] w fun e w' => e = .returned (.bool false) ∧ Fr w w')
    (HS : ∀ w, Calls Tryz.prog 104 #[.int .i64 t] w fun e w' => e = .returned (.int .i64 s) ∧ Fr w w') : Calls Tryz.prog 184 #[.agg #[.int .i64 t, .int .u64 n, .string b], .agg #[.int .i64 t', .int .u64 n', .string b']] w fun e w' => RetI (-1) 0 w e w' := by
  go_enter Tryz.func184, Tryz.ntmps184
  go_wp2_with fail
  refine (HK _).mono ?_
  rintro e w1 ⟨rfl, hF1⟩
  have hz1 := hF1.size; (try simp at hz1)
  (try (have hz1_0 : w.heap.size < w1.heap.size := (by omega)))
  (try (have hz1_1 : w.heap.size + 1 < w1.heap.size := (by omega)))
  have hc1 := hF1.cells
  have hf1 := hF1.froz
  have hg1_0 : ∀ o, w1.frozen? ⟨w.heap.size, o, none⟩ = false := (by intro o; rw [hf1 _ _ (by first | (simp; done) | (simp; omega) | omega)]; (first | (simp; done) | (simp [*]; done) | go_simp))
  have hk1_0 : w1.cell? ⟨w.heap.size, 0, none⟩ = some (.int .i64 t) := (by rw [hc1 _ _ (by first | (simp; done) | (simp; omega) | omega)]; (first | (simp; done) | (simp [*]; done) | go_simp))
  have hk1_1 : w1.cell? ⟨w.heap.size, 1, none⟩ = some (.int .u64 n) := (by rw [hc1 _ _ (by first | (simp; done) | (simp; omega) | omega)]; (first | (simp; done) | (simp [*]; done) | go_simp))
  have hk1_2 : w1.cell? ⟨w.heap.size, 2, none⟩ = some (.string b) := (by rw [hc1 _ _ (by first | (simp; done) | (simp; omega) | omega)]; (first | (simp; done) | (simp [*]; done) | go_simp))
  have hg1_3 : ∀ o, w1.frozen? ⟨w.heap.size + 1, o, none⟩ = false := (by intro o; rw [hf1 _ _ (by first | (simp; done) | (simp; omega) | omega)]; (first | (simp; done) | (simp [*]; done) | go_simp))
  have hk1_3 : w1.cell? ⟨w.heap.size + 1, 0, none⟩ = some (.int .i64 t') := (by rw [hc1 _ _ (by first | (simp; done) | (simp; omega) | omega)]; (first | (simp; done) | (simp [*]; done) | go_simp))
  have hk1_4 : w1.cell? ⟨w.heap.size + 1, 1, none⟩ = some (.int .u64 n') := (by rw [hc1 _ _ (by first | (simp; done) | (simp; omega) | omega)]; (first | (simp; done) | (simp [*]; done) | go_simp))
  have hk1_5 : w1.cell? ⟨w.heap.size + 1, 2, none⟩ = some (.string b') := (by rw [hc1 _ _ (by first | (simp; done) | (simp; omega) | omega)]; (first | (simp; done) | (simp [*]; done) | go_simp))
  go_wp2_with fail
  refine (HK' _).mono ?_
  rintro e w2 ⟨rfl, hF2⟩
  have hz2 := hF2.size; (try simp at hz2)
  (try (have hz2_0 : w.heap.size < w2.heap.size := (by omega)))
  (try (have hz2_1 : w.heap.size + 1 < w2.heap.size := (by omega)))
  have hc2 := hF2.cells
  have hf2 := hF2.froz
  have hg2_0 : ∀ o, w2.frozen? ⟨w.heap.size, o, none⟩ = false := (by intro o; rw [hf2 _ _ (by first | (simp; done) | (simp; omega) | omega)]; (first | (simp; done) | (simp [*]; done) | go_simp))
  have hk2_0 : w2.cell? ⟨w.heap.size, 0, none⟩ = some (.int .i64 t) := (by rw [hc2 _ _ (by first | (simp; done) | (simp; omega) | omega)]; (first | (simp; done) | (simp [*]; done) | go_simp))
  have hk2_1 : w2.cell? ⟨w.heap.size, 1, none⟩ = some (.int .u64 n) := (by rw [hc2 _ _ (by first | (simp; done) | (simp; omega) | omega)]; (first | (simp; done) | (simp [*]; done) | go_simp))
  have hk2_2 : w2.cell? ⟨w.heap.size, 2, none⟩ = some (.string b) := (by rw [hc2 _ _ (by first | (simp; done) | (simp; omega) | omega)]; (first | (simp; done) | (simp [*]; done) | go_simp))
  have hg2_3 : ∀ o, w2.frozen? ⟨w.heap.size + 1, o, none⟩ = false := (by intro o; rw [hf2 _ _ (by first | (simp; done) | (simp; omega) | omega)]; (first | (simp; done) | (simp [*]; done) | go_simp))
  have hk2_3 : w2.cell? ⟨w.heap.size + 1, 0, none⟩ = some (.int .i64 t') := (by rw [hc2 _ _ (by first | (simp; done) | (simp; omega) | omega)]; (first | (simp; done) | (simp [*]; done) | go_simp))
  have hk2_4 : w2.cell? ⟨w.heap.size + 1, 1, none⟩ = some (.int .u64 n') := (by rw [hc2 _ _ (by first | (simp; done) | (simp; omega) | omega)]; (first | (simp; done) | (simp [*]; done) | go_simp))
  have hk2_5 : w2.cell? ⟨w.heap.size + 1, 2, none⟩ = some (.string b') := (by rw [hc2 _ _ (by first | (simp; done) | (simp; omega) | omega)]; (first | (simp; done) | (simp [*]; done) | go_simp))
  go_wp2_with fail
  go_quiet (fail)
  go_wp2_with fail
  refine (HG _).mono ?_
  rintro e w3 ⟨rfl, hF3⟩
  have hz3 := hF3.size; (try simp at hz3)
  (try (have hz3_0 : w.heap.size < w3.heap.size := (by omega)))
  (try (have hz3_1 : w.heap.size + 1 < w3.heap.size := (by omega)))
  have hc3 := hF3.cells
  have hf3 := hF3.froz
  have hg3_0 : ∀ o, w3.frozen? ⟨w.heap.size, o, none⟩ = false := (by intro o; rw [hf3 _ _ (by first | (simp; done) | (simp; omega) | omega)]; (first | (simp; done) | (simp [*]; done) | go_simp))
  have hk3_0 : w3.cell? ⟨w.heap.size, 0, none⟩ = some (.int .i64 t) := (by rw [hc3 _ _ (by first | (simp; done) | (simp; omega) | omega)]; (first | (simp; done) | (simp [*]; done) | go_simp))
  have hk3_1 : w3.cell? ⟨w.heap.size, 1, none⟩ = some (.int .u64 n) := (by rw [hc3 _ _ (by first | (simp; done) | (simp; omega) | omega)]; (first | (simp; done) | (simp [*]; done) | go_simp))
  have hk3_2 : w3.cell? ⟨w.heap.size, 2, none⟩ = some (.string b) := (by rw [hc3 _ _ (by first | (simp; done) | (simp; omega) | omega)]; (first | (simp; done) | (simp [*]; done) | go_simp))
  have hg3_3 : ∀ o, w3.frozen? ⟨w.heap.size + 1, o, none⟩ = false := (by intro o; rw [hf3 _ _ (by first | (simp; done) | (simp; omega) | omega)]; (first | (simp; done) | (simp [*]; done) | go_simp))
  have hk3_3 : w3.cell? ⟨w.heap.size + 1, 0, none⟩ = some (.int .i64 t') := (by rw [hc3 _ _ (by first | (simp; done) | (simp; omega) | omega)]; (first | (simp; done) | (simp [*]; done) | go_simp))
  have hk3_4 : w3.cell? ⟨w.heap.size + 1, 1, none⟩ = some (.int .u64 n') := (by rw [hc3 _ _ (by first | (simp; done) | (simp; omega) | omega)]; (first | (simp; done) | (simp [*]; done) | go_simp))
  have hk3_5 : w3.cell? ⟨w.heap.size + 1, 2, none⟩ = some (.string b') := (by rw [hc3 _ _ (by first | (simp; done) | (simp; omega) | omega)]; (first | (simp; done) | (simp [*]; done) | go_simp))
  go_wp2_with fail
  refine (HS _).mono ?_
  rintro e w4 ⟨rfl, hF4⟩
  have hz4 := hF4.size; (try simp at hz4)
  (try (have hz4_0 : w.heap.size < w4.heap.size := (by omega)))
  (try (have hz4_1 : w.heap.size + 1 < w4.heap.size := (by omega)))
  have hc4 := hF4.cells
  have hf4 := hF4.froz
  have hg4_0 : ∀ o, w4.frozen? ⟨w.heap.size, o, none⟩ = false := (by intro o; rw [hf4 _ _ (by first | (simp; done) | (simp; omega) | omega)]; (first | (simp; done) | (simp [*]; done) | go_simp))
  have hk4_0 : w4.cell? ⟨w.heap.size, 0, none⟩ = some (.int .i64 t) := (by rw [hc4 _ _ (by first | (simp; done) | (simp; omega) | omega)]; (first | (simp; done) | (simp [*]; done) | go_simp))
  have hk4_1 : w4.cell? ⟨w.heap.size, 1, none⟩ = some (.int .u64 n) := (by rw [hc4 _ _ (by first | (simp; done) | (simp; omega) | omega)]; (first | (simp; done) | (simp [*]; done) | go_simp))
  have hk4_2 : w4.cell? ⟨w.heap.size, 2, none⟩ = some (.string b) := (by rw [hc4 _ _ (by first | (simp; done) | (simp; omega) | omega)]; (first | (simp; done) | (simp [*]; done) | go_simp))
  have hg4_3 : ∀ o, w4.frozen? ⟨w.heap.size + 1, o, none⟩ = false := (by intro o; rw [hf4 _ _ (by first | (simp; done) | (simp; omega) | omega)]; (first | (simp; done) | (simp [*]; done) | go_simp))
  have hk4_3 : w4.cell? ⟨w.heap.size + 1, 0, none⟩ = some (.int .i64 t') := (by rw [hc4 _ _ (by first | (simp; done) | (simp; omega) | omega)]; (first | (simp; done) | (simp [*]; done) | go_simp))
  have hk4_4 : w4.cell? ⟨w.heap.size + 1, 1, none⟩ = some (.int .u64 n') := (by rw [hc4 _ _ (by first | (simp; done) | (simp; omega) | omega)]; (first | (simp; done) | (simp [*]; done) | go_simp))
  have hk4_5 : w4.cell? ⟨w.heap.size + 1, 2, none⟩ = some (.string b') := (by rw [hc4 _ _ (by first | (simp; done) | (simp; omega) | omega)]; (first | (simp; done) | (simp [*]; done) | go_simp))
  go_wp2_with fail
  go_ret2
  exact RetI.mk' rfl rfl (by (repeat (with_reducible first | exact Fr.refl _ | assumption | refine Fr.alloc ?_ _ | refine Fr.drew ?_ | refine Fr.drewN ?_ _ | refine Fr.set ?_ (by first | (simp; done) | (simp; omega)) _ | refine Fr.trans ?_ (by assumption))))
set_option maxHeartbeats 1000000 in
theorem rord_slt (ht : (t != t') = false) (s : Int) (hs : (s == 0) = false) (x x' : Int) (hx : bits .xor .u64 n 9223372036854775808 = x) (hx' : bits .xor .u64 n' 9223372036854775808 = x') (h1 : x < x') (HK : ∀ w, Calls Tryz.prog 115 #[.agg #[.int .i64 t, .int .u64 n, .string b]] w fun e w' => e = .returned (.int .i64 0) ∧ Fr w w') (HK' : ∀ w, Calls Tryz.prog 115 #[.agg #[.int .i64 t', .int .u64 n', .string b']] w fun e w' => e = .returned (.int .i64 0) ∧ Fr w w') (HG : ∀ w, Calls Tryz.prog 203 #[.int .i64 t] w fun e w' => e = .returned (.bool true) ∧ Fr w w')
    (HS : ∀ w, Calls Tryz.prog 104 #[.int .i64 t] w fun e w' => e = .returned (.int .i64 s) ∧ Fr w w') : Calls Tryz.prog 184 #[.agg #[.int .i64 t, .int .u64 n, .string b], .agg #[.int .i64 t', .int .u64 n', .string b']] w fun e w' => RetI (-1) 0 w e w' := by
  go_enter Tryz.func184, Tryz.ntmps184
  go_wp2_with fail
  refine (HK _).mono ?_
  rintro e w1 ⟨rfl, hF1⟩
  have hz1 := hF1.size; (try simp at hz1)
  (try (have hz1_0 : w.heap.size < w1.heap.size := (by omega)))
  (try (have hz1_1 : w.heap.size + 1 < w1.heap.size := (by omega)))
  have hc1 := hF1.cells
  have hf1 := hF1.froz
  have hg1_0 : ∀ o, w1.frozen? ⟨w.heap.size, o, none⟩ = false := (by intro o; rw [hf1 _ _ (by first | (simp; done) | (simp; omega) | omega)]; (first | (simp; done) | (simp [*]; done) | go_simp))
  have hk1_0 : w1.cell? ⟨w.heap.size, 0, none⟩ = some (.int .i64 t) := (by rw [hc1 _ _ (by first | (simp; done) | (simp; omega) | omega)]; (first | (simp; done) | (simp [*]; done) | go_simp))
  have hk1_1 : w1.cell? ⟨w.heap.size, 1, none⟩ = some (.int .u64 n) := (by rw [hc1 _ _ (by first | (simp; done) | (simp; omega) | omega)]; (first | (simp; done) | (simp [*]; done) | go_simp))
  have hk1_2 : w1.cell? ⟨w.heap.size, 2, none⟩ = some (.string b) := (by rw [hc1 _ _ (by first | (simp; done) | (simp; omega) | omega)]; (first | (simp; done) | (simp [*]; done) | go_simp))
  have hg1_3 : ∀ o, w1.frozen? ⟨w.heap.size + 1, o, none⟩ = false := (by intro o; rw [hf1 _ _ (by first | (simp; done) | (simp; omega) | omega)]; (first | (simp; done) | (simp [*]; done) | go_simp))
  have hk1_3 : w1.cell? ⟨w.heap.size + 1, 0, none⟩ = some (.int .i64 t') := (by rw [hc1 _ _ (by first | (simp; done) | (simp; omega) | omega)]; (first | (simp; done) | (simp [*]; done) | go_simp))
  have hk1_4 : w1.cell? ⟨w.heap.size + 1, 1, none⟩ = some (.int .u64 n') := (by rw [hc1 _ _ (by first | (simp; done) | (simp; omega) | omega)]; (first | (simp; done) | (simp [*]; done) | go_simp))
  have hk1_5 : w1.cell? ⟨w.heap.size + 1, 2, none⟩ = some (.string b') := (by rw [hc1 _ _ (by first | (simp; done) | (simp; omega) | omega)]; (first | (simp; done) | (simp [*]; done) | go_simp))
  go_wp2_with fail
  refine (HK' _).mono ?_
  rintro e w2 ⟨rfl, hF2⟩
  have hz2 := hF2.size; (try simp at hz2)
  (try (have hz2_0 : w.heap.size < w2.heap.size := (by omega)))
  (try (have hz2_1 : w.heap.size + 1 < w2.heap.size := (by omega)))
  have hc2 := hF2.cells
  have hf2 := hF2.froz
  have hg2_0 : ∀ o, w2.frozen? ⟨w.heap.size, o, none⟩ = false := (by intro o; rw [hf2 _ _ (by first | (simp; done) | (simp; omega) | omega)]; (first | (simp; done) | (simp [*]; done) | go_simp))
  have hk2_0 : w2.cell? ⟨w.heap.size, 0, none⟩ = some (.int .i64 t) := (by rw [hc2 _ _ (by first | (simp; done) | (simp; omega) | omega)]; (first | (simp; done) | (simp [*]; done) | go_simp))
  have hk2_1 : w2.cell? ⟨w.heap.size, 1, none⟩ = some (.int .u64 n) := (by rw [hc2 _ _ (by first | (simp; done) | (simp; omega) | omega)]; (first | (simp; done) | (simp [*]; done) | go_simp))
  have hk2_2 : w2.cell? ⟨w.heap.size, 2, none⟩ = some (.string b) := (by rw [hc2 _ _ (by first | (simp; done) | (simp; omega) | omega)]; (first | (simp; done) | (simp [*]; done) | go_simp))
  have hg2_3 : ∀ o, w2.frozen? ⟨w.heap.size + 1, o, none⟩ = false := (by intro o; rw [hf2 _ _ (by first | (simp; done) | (simp; omega) | omega)]; (first | (simp; done) | (simp [*]; done) | go_simp))
  have hk2_3 : w2.cell? ⟨w.heap.size + 1, 0, none⟩ = some (.int .i64 t') := (by rw [hc2 _ _ (by first | (simp; done) | (simp; omega) | omega)]; (first | (simp; done) | (simp [*]; done) | go_simp))
  have hk2_4 : w2.cell? ⟨w.heap.size + 1, 1, none⟩ = some (.int .u64 n') := (by rw [hc2 _ _ (by first | (simp; done) | (simp; omega) | omega)]; (first | (simp; done) | (simp [*]; done) | go_simp))
  have hk2_5 : w2.cell? ⟨w.heap.size + 1, 2, none⟩ = some (.string b') := (by rw [hc2 _ _ (by first | (simp; done) | (simp; omega) | omega)]; (first | (simp; done) | (simp [*]; done) | go_simp))
  go_wp2_with fail
  go_quiet (fail)
  go_wp2_with fail
  refine (HG _).mono ?_
  rintro e w3 ⟨rfl, hF3⟩
  have hz3 := hF3.size; (try simp at hz3)
  (try (have hz3_0 : w.heap.size < w3.heap.size := (by omega)))
  (try (have hz3_1 : w.heap.size + 1 < w3.heap.size := (by omega)))
  have hc3 := hF3.cells
  have hf3 := hF3.froz
  have hg3_0 : ∀ o, w3.frozen? ⟨w.heap.size, o, none⟩ = false := (by intro o; rw [hf3 _ _ (by first | (simp; done) | (simp; omega) | omega)]; (first | (simp; done) | (simp [*]; done) | go_simp))
  have hk3_0 : w3.cell? ⟨w.heap.size, 0, none⟩ = some (.int .i64 t) := (by rw [hc3 _ _ (by first | (simp; done) | (simp; omega) | omega)]; (first | (simp; done) | (simp [*]; done) | go_simp))
  have hk3_1 : w3.cell? ⟨w.heap.size, 1, none⟩ = some (.int .u64 n) := (by rw [hc3 _ _ (by first | (simp; done) | (simp; omega) | omega)]; (first | (simp; done) | (simp [*]; done) | go_simp))
  have hk3_2 : w3.cell? ⟨w.heap.size, 2, none⟩ = some (.string b) := (by rw [hc3 _ _ (by first | (simp; done) | (simp; omega) | omega)]; (first | (simp; done) | (simp [*]; done) | go_simp))
  have hg3_3 : ∀ o, w3.frozen? ⟨w.heap.size + 1, o, none⟩ = false := (by intro o; rw [hf3 _ _ (by first | (simp; done) | (simp; omega) | omega)]; (first | (simp; done) | (simp [*]; done) | go_simp))
  have hk3_3 : w3.cell? ⟨w.heap.size + 1, 0, none⟩ = some (.int .i64 t') := (by rw [hc3 _ _ (by first | (simp; done) | (simp; omega) | omega)]; (first | (simp; done) | (simp [*]; done) | go_simp))
  have hk3_4 : w3.cell? ⟨w.heap.size + 1, 1, none⟩ = some (.int .u64 n') := (by rw [hc3 _ _ (by first | (simp; done) | (simp; omega) | omega)]; (first | (simp; done) | (simp [*]; done) | go_simp))
  have hk3_5 : w3.cell? ⟨w.heap.size + 1, 2, none⟩ = some (.string b') := (by rw [hc3 _ _ (by first | (simp; done) | (simp; omega) | omega)]; (first | (simp; done) | (simp [*]; done) | go_simp))
  go_wp2_with fail
  refine (HS _).mono ?_
  rintro e w4 ⟨rfl, hF4⟩
  have hz4 := hF4.size; (try simp at hz4)
  (try (have hz4_0 : w.heap.size < w4.heap.size := (by omega)))
  (try (have hz4_1 : w.heap.size + 1 < w4.heap.size := (by omega)))
  have hc4 := hF4.cells
  have hf4 := hF4.froz
  have hg4_0 : ∀ o, w4.frozen? ⟨w.heap.size, o, none⟩ = false := (by intro o; rw [hf4 _ _ (by first | (simp; done) | (simp; omega) | omega)]; (first | (simp; done) | (simp [*]; done) | go_simp))
  have hk4_0 : w4.cell? ⟨w.heap.size, 0, none⟩ = some (.int .i64 t) := (by rw [hc4 _ _ (by first | (simp; done) | (simp; omega) | omega)]; (first | (simp; done) | (simp [*]; done) | go_simp))
  have hk4_1 : w4.cell? ⟨w.heap.size, 1, none⟩ = some (.int .u64 n) := (by rw [hc4 _ _ (by first | (simp; done) | (simp; omega) | omega)]; (first | (simp; done) | (simp [*]; done) | go_simp))
  have hk4_2 : w4.cell? ⟨w.heap.size, 2, none⟩ = some (.string b) := (by rw [hc4 _ _ (by first | (simp; done) | (simp; omega) | omega)]; (first | (simp; done) | (simp [*]; done) | go_simp))
  have hg4_3 : ∀ o, w4.frozen? ⟨w.heap.size + 1, o, none⟩ = false := (by intro o; rw [hf4 _ _ (by first | (simp; done) | (simp; omega) | omega)]; (first | (simp; done) | (simp [*]; done) | go_simp))
  have hk4_3 : w4.cell? ⟨w.heap.size + 1, 0, none⟩ = some (.int .i64 t') := (by rw [hc4 _ _ (by first | (simp; done) | (simp; omega) | omega)]; (first | (simp; done) | (simp [*]; done) | go_simp))
  have hk4_4 : w4.cell? ⟨w.heap.size + 1, 1, none⟩ = some (.int .u64 n') := (by rw [hc4 _ _ (by first | (simp; done) | (simp; omega) | omega)]; (first | (simp; done) | (simp [*]; done) | go_simp))
  have hk4_5 : w4.cell? ⟨w.heap.size + 1, 2, none⟩ = some (.string b') := (by rw [hc4 _ _ (by first | (simp; done) | (simp; omega) | omega)]; (first | (simp; done) | (simp [*]; done) | go_simp))
  go_wp2_with fail
  go_ret2
  exact RetI.mk' rfl rfl (by (repeat (with_reducible first | exact Fr.refl _ | assumption | refine Fr.alloc ?_ _ | refine Fr.drew ?_ | refine Fr.drewN ?_ _ | refine Fr.set ?_ (by first | (simp; done) | (simp; omega)) _ | refine Fr.trans ?_ (by assumption))))
set_option maxHeartbeats 1000000 in
theorem rord_ugt (ht : (t != t') = false) (s : Int) (hs : (s == 0) = false) (h1 : ¬ n < n') (h2 : n' < n) (HK : ∀ w, Calls Tryz.prog 115 #[.agg #[.int .i64 t, .int .u64 n, .string b]] w fun e w' => e = .returned (.int .i64 0) ∧ Fr w w') (HK' : ∀ w, Calls Tryz.prog 115 #[.agg #[.int .i64 t', .int .u64 n', .string b']] w fun e w' => e = .returned (.int .i64 0) ∧ Fr w w') (HG : ∀ w, Calls Tryz.prog 203 #[.int .i64 t] w fun e w' => e = .returned (.bool false) ∧ Fr w w')
    (HS : ∀ w, Calls Tryz.prog 104 #[.int .i64 t] w fun e w' => e = .returned (.int .i64 s) ∧ Fr w w') : Calls Tryz.prog 184 #[.agg #[.int .i64 t, .int .u64 n, .string b], .agg #[.int .i64 t', .int .u64 n', .string b']] w fun e w' => RetI (1) 0 w e w' := by
  go_enter Tryz.func184, Tryz.ntmps184
  go_wp2_with fail
  refine (HK _).mono ?_
  rintro e w1 ⟨rfl, hF1⟩
  have hz1 := hF1.size; (try simp at hz1)
  (try (have hz1_0 : w.heap.size < w1.heap.size := (by omega)))
  (try (have hz1_1 : w.heap.size + 1 < w1.heap.size := (by omega)))
  have hc1 := hF1.cells
  have hf1 := hF1.froz
  have hg1_0 : ∀ o, w1.frozen? ⟨w.heap.size, o, none⟩ = false := (by intro o; rw [hf1 _ _ (by first | (simp; done) | (simp; omega) | omega)]; (first | (simp; done) | (simp [*]; done) | go_simp))
  have hk1_0 : w1.cell? ⟨w.heap.size, 0, none⟩ = some (.int .i64 t) := (by rw [hc1 _ _ (by first | (simp; done) | (simp; omega) | omega)]; (first | (simp; done) | (simp [*]; done) | go_simp))
  have hk1_1 : w1.cell? ⟨w.heap.size, 1, none⟩ = some (.int .u64 n) := (by rw [hc1 _ _ (by first | (simp; done) | (simp; omega) | omega)]; (first | (simp; done) | (simp [*]; done) | go_simp))
  have hk1_2 : w1.cell? ⟨w.heap.size, 2, none⟩ = some (.string b) := (by rw [hc1 _ _ (by first | (simp; done) | (simp; omega) | omega)]; (first | (simp; done) | (simp [*]; done) | go_simp))
  have hg1_3 : ∀ o, w1.frozen? ⟨w.heap.size + 1, o, none⟩ = false := (by intro o; rw [hf1 _ _ (by first | (simp; done) | (simp; omega) | omega)]; (first | (simp; done) | (simp [*]; done) | go_simp))
  have hk1_3 : w1.cell? ⟨w.heap.size + 1, 0, none⟩ = some (.int .i64 t') := (by rw [hc1 _ _ (by first | (simp; done) | (simp; omega) | omega)]; (first | (simp; done) | (simp [*]; done) | go_simp))
  have hk1_4 : w1.cell? ⟨w.heap.size + 1, 1, none⟩ = some (.int .u64 n') := (by rw [hc1 _ _ (by first | (simp; done) | (simp; omega) | omega)]; (first | (simp; done) | (simp [*]; done) | go_simp))
  have hk1_5 : w1.cell? ⟨w.heap.size + 1, 2, none⟩ = some (.string b') := (by rw [hc1 _ _ (by first | (simp; done) | (simp; omega) | omega)]; (first | (simp; done) | (simp [*]; done) | go_simp))
  go_wp2_with fail
  refine (HK' _).mono ?_
  rintro e w2 ⟨rfl, hF2⟩
  have hz2 := hF2.size; (try simp at hz2)
  (try (have hz2_0 : w.heap.size < w2.heap.size := (by omega)))
  (try (have hz2_1 : w.heap.size + 1 < w2.heap.size := (by omega)))
  have hc2 := hF2.cells
  have hf2 := hF2.froz
  have hg2_0 : ∀ o, w2.frozen? ⟨w.heap.size, o, none⟩ = false := (by intro o; rw [hf2 _ _ (by first | (simp; done) | (simp; omega) | omega)]; (first | (simp; done) | (simp [*]; done) | go_simp))
  have hk2_0 : w2.cell? ⟨w.heap.size, 0, none⟩ = some (.int .i64 t) := (by rw [hc2 _ _ (by first | (simp; done) | (simp; omega) | omega)]; (first | (simp; done) | (simp [*]; done) | go_simp))
  have hk2_1 : w2.cell? ⟨w.heap.size, 1, none⟩ = some (.int .u64 n) := (by rw [hc2 _ _ (by first | (simp; done) | (simp; omega) | omega)]; (first | (simp; done) | (simp [*]; done) | go_simp))
  have hk2_2 : w2.cell? ⟨w.heap.size, 2, none⟩ = some (.string b) := (by rw [hc2 _ _ (by first | (simp; done) | (simp; omega) | omega)]; (first | (simp; done) | (simp [*]; done) | go_simp))
  have hg2_3 : ∀ o, w2.frozen? ⟨w.heap.size + 1, o, none⟩ = false := (by intro o; rw [hf2 _ _ (by first | (simp; done) | (simp; omega) | omega)]; (first | (simp; done) | (simp [*]; done) | go_simp))
  have hk2_3 : w2.cell? ⟨w.heap.size + 1, 0, none⟩ = some (.int .i64 t') := (by rw [hc2 _ _ (by first | (simp; done) | (simp; omega) | omega)]; (first | (simp; done) | (simp [*]; done) | go_simp))
  have hk2_4 : w2.cell? ⟨w.heap.size + 1, 1, none⟩ = some (.int .u64 n') := (by rw [hc2 _ _ (by first | (simp; done) | (simp; omega) | omega)]; (first | (simp; done) | (simp [*]; done) | go_simp))
  have hk2_5 : w2.cell? ⟨w.heap.size + 1, 2, none⟩ = some (.string b') := (by rw [hc2 _ _ (by first | (simp; done) | (simp; omega) | omega)]; (first | (simp; done) | (simp [*]; done) | go_simp))
  go_wp2_with fail
  go_quiet (fail)
  go_wp2_with fail
  refine (HG _).mono ?_
  rintro e w3 ⟨rfl, hF3⟩
  have hz3 := hF3.size; (try simp at hz3)
  (try (have hz3_0 : w.heap.size < w3.heap.size := (by omega)))
  (try (have hz3_1 : w.heap.size + 1 < w3.heap.size := (by omega)))
  have hc3 := hF3.cells
  have hf3 := hF3.froz
  have hg3_0 : ∀ o, w3.frozen? ⟨w.heap.size, o, none⟩ = false := (by intro o; rw [hf3 _ _ (by first | (simp; done) | (simp; omega) | omega)]; (first | (simp; done) | (simp [*]; done) | go_simp))
  have hk3_0 : w3.cell? ⟨w.heap.size, 0, none⟩ = some (.int .i64 t) := (by rw [hc3 _ _ (by first | (simp; done) | (simp; omega) | omega)]; (first | (simp; done) | (simp [*]; done) | go_simp))
  have hk3_1 : w3.cell? ⟨w.heap.size, 1, none⟩ = some (.int .u64 n) := (by rw [hc3 _ _ (by first | (simp; done) | (simp; omega) | omega)]; (first | (simp; done) | (simp [*]; done) | go_simp))
  have hk3_2 : w3.cell? ⟨w.heap.size, 2, none⟩ = some (.string b) := (by rw [hc3 _ _ (by first | (simp; done) | (simp; omega) | omega)]; (first | (simp; done) | (simp [*]; done) | go_simp))
  have hg3_3 : ∀ o, w3.frozen? ⟨w.heap.size + 1, o, none⟩ = false := (by intro o; rw [hf3 _ _ (by first | (simp; done) | (simp; omega) | omega)]; (first | (simp; done) | (simp [*]; done) | go_simp))
  have hk3_3 : w3.cell? ⟨w.heap.size + 1, 0, none⟩ = some (.int .i64 t') := (by rw [hc3 _ _ (by first | (simp; done) | (simp; omega) | omega)]; (first | (simp; done) | (simp [*]; done) | go_simp))
  have hk3_4 : w3.cell? ⟨w.heap.size + 1, 1, none⟩ = some (.int .u64 n') := (by rw [hc3 _ _ (by first | (simp; done) | (simp; omega) | omega)]; (first | (simp; done) | (simp [*]; done) | go_simp))
  have hk3_5 : w3.cell? ⟨w.heap.size + 1, 2, none⟩ = some (.string b') := (by rw [hc3 _ _ (by first | (simp; done) | (simp; omega) | omega)]; (first | (simp; done) | (simp [*]; done) | go_simp))
  go_wp2_with fail
  refine (HS _).mono ?_
  rintro e w4 ⟨rfl, hF4⟩
  have hz4 := hF4.size; (try simp at hz4)
  (try (have hz4_0 : w.heap.size < w4.heap.size := (by omega)))
  (try (have hz4_1 : w.heap.size + 1 < w4.heap.size := (by omega)))
  have hc4 := hF4.cells
  have hf4 := hF4.froz
  have hg4_0 : ∀ o, w4.frozen? ⟨w.heap.size, o, none⟩ = false := (by intro o; rw [hf4 _ _ (by first | (simp; done) | (simp; omega) | omega)]; (first | (simp; done) | (simp [*]; done) | go_simp))
  have hk4_0 : w4.cell? ⟨w.heap.size, 0, none⟩ = some (.int .i64 t) := (by rw [hc4 _ _ (by first | (simp; done) | (simp; omega) | omega)]; (first | (simp; done) | (simp [*]; done) | go_simp))
  have hk4_1 : w4.cell? ⟨w.heap.size, 1, none⟩ = some (.int .u64 n) := (by rw [hc4 _ _ (by first | (simp; done) | (simp; omega) | omega)]; (first | (simp; done) | (simp [*]; done) | go_simp))
  have hk4_2 : w4.cell? ⟨w.heap.size, 2, none⟩ = some (.string b) := (by rw [hc4 _ _ (by first | (simp; done) | (simp; omega) | omega)]; (first | (simp; done) | (simp [*]; done) | go_simp))
  have hg4_3 : ∀ o, w4.frozen? ⟨w.heap.size + 1, o, none⟩ = false := (by intro o; rw [hf4 _ _ (by first | (simp; done) | (simp; omega) | omega)]; (first | (simp; done) | (simp [*]; done) | go_simp))
  have hk4_3 : w4.cell? ⟨w.heap.size + 1, 0, none⟩ = some (.int .i64 t') := (by rw [hc4 _ _ (by first | (simp; done) | (simp; omega) | omega)]; (first | (simp; done) | (simp [*]; done) | go_simp))
  have hk4_4 : w4.cell? ⟨w.heap.size + 1, 1, none⟩ = some (.int .u64 n') := (by rw [hc4 _ _ (by first | (simp; done) | (simp; omega) | omega)]; (first | (simp; done) | (simp [*]; done) | go_simp))
  have hk4_5 : w4.cell? ⟨w.heap.size + 1, 2, none⟩ = some (.string b') := (by rw [hc4 _ _ (by first | (simp; done) | (simp; omega) | omega)]; (first | (simp; done) | (simp [*]; done) | go_simp))
  go_wp2_with fail
  go_ret2
  exact RetI.mk' rfl rfl (by (repeat (with_reducible first | exact Fr.refl _ | assumption | refine Fr.alloc ?_ _ | refine Fr.drew ?_ | refine Fr.drewN ?_ _ | refine Fr.set ?_ (by first | (simp; done) | (simp; omega)) _ | refine Fr.trans ?_ (by assumption))))
set_option maxHeartbeats 1000000 in
theorem rord_sgt (ht : (t != t') = false) (s : Int) (hs : (s == 0) = false) (x x' : Int) (hx : bits .xor .u64 n 9223372036854775808 = x) (hx' : bits .xor .u64 n' 9223372036854775808 = x') (h1 : ¬ x < x') (h2 : x' < x) (HK : ∀ w, Calls Tryz.prog 115 #[.agg #[.int .i64 t, .int .u64 n, .string b]] w fun e w' => e = .returned (.int .i64 0) ∧ Fr w w') (HK' : ∀ w, Calls Tryz.prog 115 #[.agg #[.int .i64 t', .int .u64 n', .string b']] w fun e w' => e = .returned (.int .i64 0) ∧ Fr w w') (HG : ∀ w, Calls Tryz.prog 203 #[.int .i64 t] w fun e w' => e = .returned (.bool true) ∧ Fr w w')
    (HS : ∀ w, Calls Tryz.prog 104 #[.int .i64 t] w fun e w' => e = .returned (.int .i64 s) ∧ Fr w w') : Calls Tryz.prog 184 #[.agg #[.int .i64 t, .int .u64 n, .string b], .agg #[.int .i64 t', .int .u64 n', .string b']] w fun e w' => RetI (1) 0 w e w' := by
  go_enter Tryz.func184, Tryz.ntmps184
  go_wp2_with fail
  refine (HK _).mono ?_
  rintro e w1 ⟨rfl, hF1⟩
  have hz1 := hF1.size; (try simp at hz1)
  (try (have hz1_0 : w.heap.size < w1.heap.size := (by omega)))
  (try (have hz1_1 : w.heap.size + 1 < w1.heap.size := (by omega)))
  have hc1 := hF1.cells
  have hf1 := hF1.froz
  have hg1_0 : ∀ o, w1.frozen? ⟨w.heap.size, o, none⟩ = false := (by intro o; rw [hf1 _ _ (by first | (simp; done) | (simp; omega) | omega)]; (first | (simp; done) | (simp [*]; done) | go_simp))
  have hk1_0 : w1.cell? ⟨w.heap.size, 0, none⟩ = some (.int .i64 t) := (by rw [hc1 _ _ (by first | (simp; done) | (simp; omega) | omega)]; (first | (simp; done) | (simp [*]; done) | go_simp))
  have hk1_1 : w1.cell? ⟨w.heap.size, 1, none⟩ = some (.int .u64 n) := (by rw [hc1 _ _ (by first | (simp; done) | (simp; omega) | omega)]; (first | (simp; done) | (simp [*]; done) | go_simp))
  have hk1_2 : w1.cell? ⟨w.heap.size, 2, none⟩ = some (.string b) := (by rw [hc1 _ _ (by first | (simp; done) | (simp; omega) | omega)]; (first | (simp; done) | (simp [*]; done) | go_simp))
  have hg1_3 : ∀ o, w1.frozen? ⟨w.heap.size + 1, o, none⟩ = false := (by intro o; rw [hf1 _ _ (by first | (simp; done) | (simp; omega) | omega)]; (first | (simp; done) | (simp [*]; done) | go_simp))
  have hk1_3 : w1.cell? ⟨w.heap.size + 1, 0, none⟩ = some (.int .i64 t') := (by rw [hc1 _ _ (by first | (simp; done) | (simp; omega) | omega)]; (first | (simp; done) | (simp [*]; done) | go_simp))
  have hk1_4 : w1.cell? ⟨w.heap.size + 1, 1, none⟩ = some (.int .u64 n') := (by rw [hc1 _ _ (by first | (simp; done) | (simp; omega) | omega)]; (first | (simp; done) | (simp [*]; done) | go_simp))
  have hk1_5 : w1.cell? ⟨w.heap.size + 1, 2, none⟩ = some (.string b') := (by rw [hc1 _ _ (by first | (simp; done) | (simp; omega) | omega)]; (first | (simp; done) | (simp [*]; done) | go_simp))
  go_wp2_with fail
  refine (HK' _).mono ?_
  rintro e w2 ⟨rfl, hF2⟩
  have hz2 := hF2.size; (try simp at hz2)
  (try (have hz2_0 : w.heap.size < w2.heap.size := (by omega)))
  (try (have hz2_1 : w.heap.size + 1 < w2.heap.size := (by omega)))
  have hc2 := hF2.cells
  have hf2 := hF2.froz
  have hg2_0 : ∀ o, w2.frozen? ⟨w.heap.size, o, none⟩ = false := (by intro o; rw [hf2 _ _ (by first | (simp; done) | (simp; omega) | omega)]; (first | (simp; done) | (simp [*]; done) | go_simp))
  have hk2_0 : w2.cell? ⟨w.heap.size, 0, none⟩ = some (.int .i64 t) := (by rw [hc2 _ _ (by first | (simp; done) | (simp; omega) | omega)]; (first | (simp; done) | (simp [*]; done) | go_simp))
  have hk2_1 : w2.cell? ⟨w.heap.size, 1, none⟩ = some (.int .u64 n) := (by rw [hc2 _ _ (by first | (simp; done) | (simp; omega) | omega)]; (first | (simp; done) | (simp [*]; done) | go_simp))
  have hk2_2 : w2.cell? ⟨w.heap.size, 2, none⟩ = some (.string b) := (by rw [hc2 _ _ (by first | (simp; done) | (simp; omega) | omega)]; (first | (simp; done) | (simp [*]; done) | go_simp))
  have hg2_3 : ∀ o, w2.frozen? ⟨w.heap.size + 1, o, none⟩ = false := (by intro o; rw [hf2 _ _ (by first | (simp; done) | (simp; omega) | omega)]; (first | (simp; done) | (simp [*]; done) | go_simp))
  have hk2_3 : w2.cell? ⟨w.heap.size + 1, 0, none⟩ = some (.int .i64 t') := (by rw [hc2 _ _ (by first | (simp; done) | (simp; omega) | omega)]; (first | (simp; done) | (simp [*]; done) | go_simp))
  have hk2_4 : w2.cell? ⟨w.heap.size + 1, 1, none⟩ = some (.int .u64 n') := (by rw [hc2 _ _ (by first | (simp; done) | (simp; omega) | omega)]; (first | (simp; done) | (simp [*]; done) | go_simp))
  have hk2_5 : w2.cell? ⟨w.heap.size + 1, 2, none⟩ = some (.string b') := (by rw [hc2 _ _ (by first | (simp; done) | (simp; omega) | omega)]; (first | (simp; done) | (simp [*]; done) | go_simp))
  go_wp2_with fail
  go_quiet (fail)
  go_wp2_with fail
  refine (HG _).mono ?_
  rintro e w3 ⟨rfl, hF3⟩
  have hz3 := hF3.size; (try simp at hz3)
  (try (have hz3_0 : w.heap.size < w3.heap.size := (by omega)))
  (try (have hz3_1 : w.heap.size + 1 < w3.heap.size := (by omega)))
  have hc3 := hF3.cells
  have hf3 := hF3.froz
  have hg3_0 : ∀ o, w3.frozen? ⟨w.heap.size, o, none⟩ = false := (by intro o; rw [hf3 _ _ (by first | (simp; done) | (simp; omega) | omega)]; (first | (simp; done) | (simp [*]; done) | go_simp))
  have hk3_0 : w3.cell? ⟨w.heap.size, 0, none⟩ = some (.int .i64 t) := (by rw [hc3 _ _ (by first | (simp; done) | (simp; omega) | omega)]; (first | (simp; done) | (simp [*]; done) | go_simp))
  have hk3_1 : w3.cell? ⟨w.heap.size, 1, none⟩ = some (.int .u64 n) := (by rw [hc3 _ _ (by first | (simp; done) | (simp; omega) | omega)]; (first | (simp; done) | (simp [*]; done) | go_simp))
  have hk3_2 : w3.cell? ⟨w.heap.size, 2, none⟩ = some (.string b) := (by rw [hc3 _ _ (by first | (simp; done) | (simp; omega) | omega)]; (first | (simp; done) | (simp [*]; done) | go_simp))
  have hg3_3 : ∀ o, w3.frozen? ⟨w.heap.size + 1, o, none⟩ = false := (by intro o; rw [hf3 _ _ (by first | (simp; done) | (simp; omega) | omega)]; (first | (simp; done) | (simp [*]; done) | go_simp))
  have hk3_3 : w3.cell? ⟨w.heap.size + 1, 0, none⟩ = some (.int .i64 t') := (by rw [hc3 _ _ (by first | (simp; done) | (simp; omega) | omega)]; (first | (simp; done) | (simp [*]; done) | go_simp))
  have hk3_4 : w3.cell? ⟨w.heap.size + 1, 1, none⟩ = some (.int .u64 n') := (by rw [hc3 _ _ (by first | (simp; done) | (simp; omega) | omega)]; (first | (simp; done) | (simp [*]; done) | go_simp))
  have hk3_5 : w3.cell? ⟨w.heap.size + 1, 2, none⟩ = some (.string b') := (by rw [hc3 _ _ (by first | (simp; done) | (simp; omega) | omega)]; (first | (simp; done) | (simp [*]; done) | go_simp))
  go_wp2_with fail
  refine (HS _).mono ?_
  rintro e w4 ⟨rfl, hF4⟩
  have hz4 := hF4.size; (try simp at hz4)
  (try (have hz4_0 : w.heap.size < w4.heap.size := (by omega)))
  (try (have hz4_1 : w.heap.size + 1 < w4.heap.size := (by omega)))
  have hc4 := hF4.cells
  have hf4 := hF4.froz
  have hg4_0 : ∀ o, w4.frozen? ⟨w.heap.size, o, none⟩ = false := (by intro o; rw [hf4 _ _ (by first | (simp; done) | (simp; omega) | omega)]; (first | (simp; done) | (simp [*]; done) | go_simp))
  have hk4_0 : w4.cell? ⟨w.heap.size, 0, none⟩ = some (.int .i64 t) := (by rw [hc4 _ _ (by first | (simp; done) | (simp; omega) | omega)]; (first | (simp; done) | (simp [*]; done) | go_simp))
  have hk4_1 : w4.cell? ⟨w.heap.size, 1, none⟩ = some (.int .u64 n) := (by rw [hc4 _ _ (by first | (simp; done) | (simp; omega) | omega)]; (first | (simp; done) | (simp [*]; done) | go_simp))
  have hk4_2 : w4.cell? ⟨w.heap.size, 2, none⟩ = some (.string b) := (by rw [hc4 _ _ (by first | (simp; done) | (simp; omega) | omega)]; (first | (simp; done) | (simp [*]; done) | go_simp))
  have hg4_3 : ∀ o, w4.frozen? ⟨w.heap.size + 1, o, none⟩ = false := (by intro o; rw [hf4 _ _ (by first | (simp; done) | (simp; omega) | omega)]; (first | (simp; done) | (simp [*]; done) | go_simp))
  have hk4_3 : w4.cell? ⟨w.heap.size + 1, 0, none⟩ = some (.int .i64 t') := (by rw [hc4 _ _ (by first | (simp; done) | (simp; omega) | omega)]; (first | (simp; done) | (simp [*]; done) | go_simp))
  have hk4_4 : w4.cell? ⟨w.heap.size + 1, 1, none⟩ = some (.int .u64 n') := (by rw [hc4 _ _ (by first | (simp; done) | (simp; omega) | omega)]; (first | (simp; done) | (simp [*]; done) | go_simp))
  have hk4_5 : w4.cell? ⟨w.heap.size + 1, 2, none⟩ = some (.string b') := (by rw [hc4 _ _ (by first | (simp; done) | (simp; omega) | omega)]; (first | (simp; done) | (simp [*]; done) | go_simp))
  go_wp2_with fail
  go_ret2
  exact RetI.mk' rfl rfl (by (repeat (with_reducible first | exact Fr.refl _ | assumption | refine Fr.alloc ?_ _ | refine Fr.drew ?_ | refine Fr.drewN ?_ _ | refine Fr.set ?_ (by first | (simp; done) | (simp; omega)) _ | refine Fr.trans ?_ (by assumption))))
set_option maxHeartbeats 1000000 in
theorem rord_ueq (ht : (t != t') = false) (s : Int) (hs : (s == 0) = false) (h1 : ¬ n < n') (h2 : ¬ n' < n) (HK : ∀ w, Calls Tryz.prog 115 #[.agg #[.int .i64 t, .int .u64 n, .string b]] w fun e w' => e = .returned (.int .i64 0) ∧ Fr w w') (HK' : ∀ w, Calls Tryz.prog 115 #[.agg #[.int .i64 t', .int .u64 n', .string b']] w fun e w' => e = .returned (.int .i64 0) ∧ Fr w w') (HG : ∀ w, Calls Tryz.prog 203 #[.int .i64 t] w fun e w' => e = .returned (.bool false) ∧ Fr w w')
    (HS : ∀ w, Calls Tryz.prog 104 #[.int .i64 t] w fun e w' => e = .returned (.int .i64 s) ∧ Fr w w') : Calls Tryz.prog 184 #[.agg #[.int .i64 t, .int .u64 n, .string b], .agg #[.int .i64 t', .int .u64 n', .string b']] w fun e w' => RetI (0) 0 w e w' := by
  go_enter Tryz.func184, Tryz.ntmps184
  go_wp2_with fail
  refine (HK _).mono ?_
  rintro e w1 ⟨rfl, hF1⟩
  have hz1 := hF1.size; (try simp at hz1)
  (try (have hz1_0 : w.heap.size < w1.heap.size := (by omega)))
  (try (have hz1_1 : w.heap.size + 1 < w1.heap.size := (by omega)))
  have hc1 := hF1.cells
  have hf1 := hF1.froz
  have hg1_0 : ∀ o, w1.frozen? ⟨w.heap.size, o, none⟩ = false := (by intro o; rw [hf1 _ _ (by first | (simp; done) | (simp; omega) | omega)]; (first | (simp; done) | (simp [*]; done) | go_simp))
  have hk1_0 : w1.cell? ⟨w.heap.size, 0, none⟩ = some (.int .i64 t) := (by rw [hc1 _ _ (by first | (simp; done) | (simp; omega) | omega)]; (first | (simp; done) | (simp [*]; done) | go_simp))
  have hk1_1 : w1.cell? ⟨w.heap.size, 1, none⟩ = some (.int .u64 n) := (by rw [hc1 _ _ (by first | (simp; done) | (simp; omega) | omega)]; (first | (simp; done) | (simp [*]; done) | go_simp))
  have hk1_2 : w1.cell? ⟨w.heap.size, 2, none⟩ = some (.string b) := (by rw [hc1 _ _ (by first | (simp; done) | (simp; omega) | omega)]; (first | (simp; done) | (simp [*]; done) | go_simp))
  have hg1_3 : ∀ o, w1.frozen? ⟨w.heap.size + 1, o, none⟩ = false := (by intro o; rw [hf1 _ _ (by first | (simp; done) | (simp; omega) | omega)]; (first | (simp; done) | (simp [*]; done) | go_simp))
  have hk1_3 : w1.cell? ⟨w.heap.size + 1, 0, none⟩ = some (.int .i64 t') := (by rw [hc1 _ _ (by first | (simp; done) | (simp; omega) | omega)]; (first | (simp; done) | (simp [*]; done) | go_simp))
  have hk1_4 : w1.cell? ⟨w.heap.size + 1, 1, none⟩ = some (.int .u64 n') := (by rw [hc1 _ _ (by first | (simp; done) | (simp; omega) | omega)]; (first | (simp; done) | (simp [*]; done) | go_simp))
  have hk1_5 : w1.cell? ⟨w.heap.size + 1, 2, none⟩ = some (.string b') := (by rw [hc1 _ _ (by first | (simp; done) | (simp; omega) | omega)]; (first | (simp; done) | (simp [*]; done) | go_simp))
  go_wp2_with fail
  refine (HK' _).mono ?_
  rintro e w2 ⟨rfl, hF2⟩
  have hz2 := hF2.size; (try simp at hz2)
  (try (have hz2_0 : w.heap.size < w2.heap.size := (by omega)))
  (try (have hz2_1 : w.heap.size + 1 < w2.heap.size := (by omega)))
  have hc2 := hF2.cells
  have hf2 := hF2.froz
  have hg2_0 : ∀ o, w2.frozen? ⟨w.heap.size, o, none⟩ = false := (by intro o; rw [hf2 _ _ (by first | (simp; done) | (simp; omega) | omega)]; (first | (simp; done) | (simp [*]; done) | go_simp))
  have hk2_0 : w2.cell? ⟨w.heap.size, 0, none⟩ = some (.int .i64 t) := (by rw [hc2 _ _ (by first | (simp; done) | (simp; omega) | omega)]; (first | (simp; done) | (simp [*]; done) | go_simp))
  have hk2_1 : w2.cell? ⟨w.heap.size, 1, none⟩ = some (.int .u64 n) := (by rw [hc2 _ _ (by first | (simp; done) | (simp; omega) | omega)]; (first | (simp; done) | (simp [*]; done) | go_simp))
  have hk2_2 : w2.cell? ⟨w.heap.size, 2, none⟩ = some (.string b) := (by rw [hc2 _ _ (by first | (simp; done) | (simp; omega) | omega)]; (first | (simp; done) | (simp [*]; done) | go_simp))
  have hg2_3 : ∀ o, w2.frozen? ⟨w.heap.size + 1, o, none⟩ = false := (by intro o; rw [hf2 _ _ (by first | (simp; done) | (simp; omega) | omega)]; (first | (simp; done) | (simp [*]; done) | go_simp))
  have hk2_3 : w2.cell? ⟨w.heap.size + 1, 0, none⟩ = some (.int .i64 t') := (by rw [hc2 _ _ (by first | (simp; done) | (simp; omega) | omega)]; (first | (simp; done) | (simp [*]; done) | go_simp))
  have hk2_4 : w2.cell? ⟨w.heap.size + 1, 1, none⟩ = some (.int .u64 n') := (by rw [hc2 _ _ (by first | (simp; done) | (simp; omega) | omega)]; (first | (simp; done) | (simp [*]; done) | go_simp))
  have hk2_5 : w2.cell? ⟨w.heap.size + 1, 2, none⟩ = some (.string b') := (by rw [hc2 _ _ (by first | (simp; done) | (simp; omega) | omega)]; (first | (simp; done) | (simp [*]; done) | go_simp))
  go_wp2_with fail
  go_quiet (fail)
  go_wp2_with fail
  refine (HG _).mono ?_
  rintro e w3 ⟨rfl, hF3⟩
  have hz3 := hF3.size; (try simp at hz3)
  (try (have hz3_0 : w.heap.size < w3.heap.size := (by omega)))
  (try (have hz3_1 : w.heap.size + 1 < w3.heap.size := (by omega)))
  have hc3 := hF3.cells
  have hf3 := hF3.froz
  have hg3_0 : ∀ o, w3.frozen? ⟨w.heap.size, o, none⟩ = false := (by intro o; rw [hf3 _ _ (by first | (simp; done) | (simp; omega) | omega)]; (first | (simp; done) | (simp [*]; done) | go_simp))
  have hk3_0 : w3.cell? ⟨w.heap.size, 0, none⟩ = some (.int .i64 t) := (by rw [hc3 _ _ (by first | (simp; done) | (simp; omega) | omega)]; (first | (simp; done) | (simp [*]; done) | go_simp))
  have hk3_1 : w3.cell? ⟨w.heap.size, 1, none⟩ = some (.int .u64 n) := (by rw [hc3 _ _ (by first | (simp; done) | (simp; omega) | omega)]; (first | (simp; done) | (simp [*]; done) | go_simp))
  have hk3_2 : w3.cell? ⟨w.heap.size, 2, none⟩ = some (.string b) := (by rw [hc3 _ _ (by first | (simp; done) | (simp; omega) | omega)]; (first | (simp; done) | (simp [*]; done) | go_simp))
  have hg3_3 : ∀ o, w3.frozen? ⟨w.heap.size + 1, o, none⟩ = false := (by intro o; rw [hf3 _ _ (by first | (simp; done) | (simp; omega) | omega)]; (first | (simp; done) | (simp [*]; done) | go_simp))
  have hk3_3 : w3.cell? ⟨w.heap.size + 1, 0, none⟩ = some (.int .i64 t') := (by rw [hc3 _ _ (by first | (simp; done) | (simp; omega) | omega)]; (first | (simp; done) | (simp [*]; done) | go_simp))
  have hk3_4 : w3.cell? ⟨w.heap.size + 1, 1, none⟩ = some (.int .u64 n') := (by rw [hc3 _ _ (by first | (simp; done) | (simp; omega) | omega)]; (first | (simp; done) | (simp [*]; done) | go_simp))
  have hk3_5 : w3.cell? ⟨w.heap.size + 1, 2, none⟩ = some (.string b') := (by rw [hc3 _ _ (by first | (simp; done) | (simp; omega) | omega)]; (first | (simp; done) | (simp [*]; done) | go_simp))
  go_wp2_with fail
  refine (HS _).mono ?_
  rintro e w4 ⟨rfl, hF4⟩
  have hz4 := hF4.size; (try simp at hz4)
  (try (have hz4_0 : w.heap.size < w4.heap.size := (by omega)))
  (try (have hz4_1 : w.heap.size + 1 < w4.heap.size := (by omega)))
  have hc4 := hF4.cells
  have hf4 := hF4.froz
  have hg4_0 : ∀ o, w4.frozen? ⟨w.heap.size, o, none⟩ = false := (by intro o; rw [hf4 _ _ (by first | (simp; done) | (simp; omega) | omega)]; (first | (simp; done) | (simp [*]; done) | go_simp))
  have hk4_0 : w4.cell? ⟨w.heap.size, 0, none⟩ = some (.int .i64 t) := (by rw [hc4 _ _ (by first | (simp; done) | (simp; omega) | omega)]; (first | (simp; done) | (simp [*]; done) | go_simp))
  have hk4_1 : w4.cell? ⟨w.heap.size, 1, none⟩ = some (.int .u64 n) := (by rw [hc4 _ _ (by first | (simp; done) | (simp; omega) | omega)]; (first | (simp; done) | (simp [*]; done) | go_simp))
  have hk4_2 : w4.cell? ⟨w.heap.size, 2, none⟩ = some (.string b) := (by rw [hc4 _ _ (by first | (simp; done) | (simp; omega) | omega)]; (first | (simp; done) | (simp [*]; done) | go_simp))
  have hg4_3 : ∀ o, w4.frozen? ⟨w.heap.size + 1, o, none⟩ = false := (by intro o; rw [hf4 _ _ (by first | (simp; done) | (simp; omega) | omega)]; (first | (simp; done) | (simp [*]; done) | go_simp))
  have hk4_3 : w4.cell? ⟨w.heap.size + 1, 0, none⟩ = some (.int .i64 t') := (by rw [hc4 _ _ (by first | (simp; done) | (simp; omega) | omega)]; (first | (simp; done) | (simp [*]; done) | go_simp))
  have hk4_4 : w4.cell? ⟨w.heap.size + 1, 1, none⟩ = some (.int .u64 n') := (by rw [hc4 _ _ (by first | (simp; done) | (simp; omega) | omega)]; (first | (simp; done) | (simp [*]; done) | go_simp))
  have hk4_5 : w4.cell? ⟨w.heap.size + 1, 2, none⟩ = some (.string b') := (by rw [hc4 _ _ (by first | (simp; done) | (simp; omega) | omega)]; (first | (simp; done) | (simp [*]; done) | go_simp))
  go_wp2_with fail
  go_ret2
  exact RetI.mk' rfl rfl (by (repeat (with_reducible first | exact Fr.refl _ | assumption | refine Fr.alloc ?_ _ | refine Fr.drew ?_ | refine Fr.drewN ?_ _ | refine Fr.set ?_ (by first | (simp; done) | (simp; omega)) _ | refine Fr.trans ?_ (by assumption))))
set_option maxHeartbeats 1000000 in
theorem rord_seq (ht : (t != t') = false) (s : Int) (hs : (s == 0) = false) (x x' : Int) (hx : bits .xor .u64 n 9223372036854775808 = x) (hx' : bits .xor .u64 n' 9223372036854775808 = x') (h1 : ¬ x < x') (h2 : ¬ x' < x) (HK : ∀ w, Calls Tryz.prog 115 #[.agg #[.int .i64 t, .int .u64 n, .string b]] w fun e w' => e = .returned (.int .i64 0) ∧ Fr w w') (HK' : ∀ w, Calls Tryz.prog 115 #[.agg #[.int .i64 t', .int .u64 n', .string b']] w fun e w' => e = .returned (.int .i64 0) ∧ Fr w w') (HG : ∀ w, Calls Tryz.prog 203 #[.int .i64 t] w fun e w' => e = .returned (.bool true) ∧ Fr w w')
    (HS : ∀ w, Calls Tryz.prog 104 #[.int .i64 t] w fun e w' => e = .returned (.int .i64 s) ∧ Fr w w') : Calls Tryz.prog 184 #[.agg #[.int .i64 t, .int .u64 n, .string b], .agg #[.int .i64 t', .int .u64 n', .string b']] w fun e w' => RetI (0) 0 w e w' := by
  go_enter Tryz.func184, Tryz.ntmps184
  go_wp2_with fail
  refine (HK _).mono ?_
  rintro e w1 ⟨rfl, hF1⟩
  have hz1 := hF1.size; (try simp at hz1)
  (try (have hz1_0 : w.heap.size < w1.heap.size := (by omega)))
  (try (have hz1_1 : w.heap.size + 1 < w1.heap.size := (by omega)))
  have hc1 := hF1.cells
  have hf1 := hF1.froz
  have hg1_0 : ∀ o, w1.frozen? ⟨w.heap.size, o, none⟩ = false := (by intro o; rw [hf1 _ _ (by first | (simp; done) | (simp; omega) | omega)]; (first | (simp; done) | (simp [*]; done) | go_simp))
  have hk1_0 : w1.cell? ⟨w.heap.size, 0, none⟩ = some (.int .i64 t) := (by rw [hc1 _ _ (by first | (simp; done) | (simp; omega) | omega)]; (first | (simp; done) | (simp [*]; done) | go_simp))
  have hk1_1 : w1.cell? ⟨w.heap.size, 1, none⟩ = some (.int .u64 n) := (by rw [hc1 _ _ (by first | (simp; done) | (simp; omega) | omega)]; (first | (simp; done) | (simp [*]; done) | go_simp))
  have hk1_2 : w1.cell? ⟨w.heap.size, 2, none⟩ = some (.string b) := (by rw [hc1 _ _ (by first | (simp; done) | (simp; omega) | omega)]; (first | (simp; done) | (simp [*]; done) | go_simp))
  have hg1_3 : ∀ o, w1.frozen? ⟨w.heap.size + 1, o, none⟩ = false := (by intro o; rw [hf1 _ _ (by first | (simp; done) | (simp; omega) | omega)]; (first | (simp; done) | (simp [*]; done) | go_simp))
  have hk1_3 : w1.cell? ⟨w.heap.size + 1, 0, none⟩ = some (.int .i64 t') := (by rw [hc1 _ _ (by first | (simp; done) | (simp; omega) | omega)]; (first | (simp; done) | (simp [*]; done) | go_simp))
  have hk1_4 : w1.cell? ⟨w.heap.size + 1, 1, none⟩ = some (.int .u64 n') := (by rw [hc1 _ _ (by first | (simp; done) | (simp; omega) | omega)]; (first | (simp; done) | (simp [*]; done) | go_simp))
  have hk1_5 : w1.cell? ⟨w.heap.size + 1, 2, none⟩ = some (.string b') := (by rw [hc1 _ _ (by first | (simp; done) | (simp; omega) | omega)]; (first | (simp; done) | (simp [*]; done) | go_simp))
  go_wp2_with fail
  refine (HK' _).mono ?_
  rintro e w2 ⟨rfl, hF2⟩
  have hz2 := hF2.size; (try simp at hz2)
  (try (have hz2_0 : w.heap.size < w2.heap.size := (by omega)))
  (try (have hz2_1 : w.heap.size + 1 < w2.heap.size := (by omega)))
  have hc2 := hF2.cells
  have hf2 := hF2.froz
  have hg2_0 : ∀ o, w2.frozen? ⟨w.heap.size, o, none⟩ = false := (by intro o; rw [hf2 _ _ (by first | (simp; done) | (simp; omega) | omega)]; (first | (simp; done) | (simp [*]; done) | go_simp))
  have hk2_0 : w2.cell? ⟨w.heap.size, 0, none⟩ = some (.int .i64 t) := (by rw [hc2 _ _ (by first | (simp; done) | (simp; omega) | omega)]; (first | (simp; done) | (simp [*]; done) | go_simp))
  have hk2_1 : w2.cell? ⟨w.heap.size, 1, none⟩ = some (.int .u64 n) := (by rw [hc2 _ _ (by first | (simp; done) | (simp; omega) | omega)]; (first | (simp; done) | (simp [*]; done) | go_simp))
  have hk2_2 : w2.cell? ⟨w.heap.size, 2, none⟩ = some (.string b) := (by rw [hc2 _ _ (by first | (simp; done) | (simp; omega) | omega)]; (first | (simp; done) | (simp [*]; done) | go_simp))
  have hg2_3 : ∀ o, w2.frozen? ⟨w.heap.size + 1, o, none⟩ = false := (by intro o; rw [hf2 _ _ (by first | (simp; done) | (simp; omega) | omega)]; (first | (simp; done) | (simp [*]; done) | go_simp))
  have hk2_3 : w2.cell? ⟨w.heap.size + 1, 0, none⟩ = some (.int .i64 t') := (by rw [hc2 _ _ (by first | (simp; done) | (simp; omega) | omega)]; (first | (simp; done) | (simp [*]; done) | go_simp))
  have hk2_4 : w2.cell? ⟨w.heap.size + 1, 1, none⟩ = some (.int .u64 n') := (by rw [hc2 _ _ (by first | (simp; done) | (simp; omega) | omega)]; (first | (simp; done) | (simp [*]; done) | go_simp))
  have hk2_5 : w2.cell? ⟨w.heap.size + 1, 2, none⟩ = some (.string b') := (by rw [hc2 _ _ (by first | (simp; done) | (simp; omega) | omega)]; (first | (simp; done) | (simp [*]; done) | go_simp))
  go_wp2_with fail
  go_quiet (fail)
  go_wp2_with fail
  refine (HG _).mono ?_
  rintro e w3 ⟨rfl, hF3⟩
  have hz3 := hF3.size; (try simp at hz3)
  (try (have hz3_0 : w.heap.size < w3.heap.size := (by omega)))
  (try (have hz3_1 : w.heap.size + 1 < w3.heap.size := (by omega)))
  have hc3 := hF3.cells
  have hf3 := hF3.froz
  have hg3_0 : ∀ o, w3.frozen? ⟨w.heap.size, o, none⟩ = false := (by intro o; rw [hf3 _ _ (by first | (simp; done) | (simp; omega) | omega)]; (first | (simp; done) | (simp [*]; done) | go_simp))
  have hk3_0 : w3.cell? ⟨w.heap.size, 0, none⟩ = some (.int .i64 t) := (by rw [hc3 _ _ (by first | (simp; done) | (simp; omega) | omega)]; (first | (simp; done) | (simp [*]; done) | go_simp))
  have hk3_1 : w3.cell? ⟨w.heap.size, 1, none⟩ = some (.int .u64 n) := (by rw [hc3 _ _ (by first | (simp; done) | (simp; omega) | omega)]; (first | (simp; done) | (simp [*]; done) | go_simp))
  have hk3_2 : w3.cell? ⟨w.heap.size, 2, none⟩ = some (.string b) := (by rw [hc3 _ _ (by first | (simp; done) | (simp; omega) | omega)]; (first | (simp; done) | (simp [*]; done) | go_simp))
  have hg3_3 : ∀ o, w3.frozen? ⟨w.heap.size + 1, o, none⟩ = false := (by intro o; rw [hf3 _ _ (by first | (simp; done) | (simp; omega) | omega)]; (first | (simp; done) | (simp [*]; done) | go_simp))
  have hk3_3 : w3.cell? ⟨w.heap.size + 1, 0, none⟩ = some (.int .i64 t') := (by rw [hc3 _ _ (by first | (simp; done) | (simp; omega) | omega)]; (first | (simp; done) | (simp [*]; done) | go_simp))
  have hk3_4 : w3.cell? ⟨w.heap.size + 1, 1, none⟩ = some (.int .u64 n') := (by rw [hc3 _ _ (by first | (simp; done) | (simp; omega) | omega)]; (first | (simp; done) | (simp [*]; done) | go_simp))
  have hk3_5 : w3.cell? ⟨w.heap.size + 1, 2, none⟩ = some (.string b') := (by rw [hc3 _ _ (by first | (simp; done) | (simp; omega) | omega)]; (first | (simp; done) | (simp [*]; done) | go_simp))
  go_wp2_with fail
  refine (HS _).mono ?_
  rintro e w4 ⟨rfl, hF4⟩
  have hz4 := hF4.size; (try simp at hz4)
  (try (have hz4_0 : w.heap.size < w4.heap.size := (by omega)))
  (try (have hz4_1 : w.heap.size + 1 < w4.heap.size := (by omega)))
  have hc4 := hF4.cells
  have hf4 := hF4.froz
  have hg4_0 : ∀ o, w4.frozen? ⟨w.heap.size, o, none⟩ = false := (by intro o; rw [hf4 _ _ (by first | (simp; done) | (simp; omega) | omega)]; (first | (simp; done) | (simp [*]; done) | go_simp))
  have hk4_0 : w4.cell? ⟨w.heap.size, 0, none⟩ = some (.int .i64 t) := (by rw [hc4 _ _ (by first | (simp; done) | (simp; omega) | omega)]; (first | (simp; done) | (simp [*]; done) | go_simp))
  have hk4_1 : w4.cell? ⟨w.heap.size, 1, none⟩ = some (.int .u64 n) := (by rw [hc4 _ _ (by first | (simp; done) | (simp; omega) | omega)]; (first | (simp; done) | (simp [*]; done) | go_simp))
  have hk4_2 : w4.cell? ⟨w.heap.size, 2, none⟩ = some (.string b) := (by rw [hc4 _ _ (by first | (simp; done) | (simp; omega) | omega)]; (first | (simp; done) | (simp [*]; done) | go_simp))
  have hg4_3 : ∀ o, w4.frozen? ⟨w.heap.size + 1, o, none⟩ = false := (by intro o; rw [hf4 _ _ (by first | (simp; done) | (simp; omega) | omega)]; (first | (simp; done) | (simp [*]; done) | go_simp))
  have hk4_3 : w4.cell? ⟨w.heap.size + 1, 0, none⟩ = some (.int .i64 t') := (by rw [hc4 _ _ (by first | (simp; done) | (simp; omega) | omega)]; (first | (simp; done) | (simp [*]; done) | go_simp))
  have hk4_4 : w4.cell? ⟨w.heap.size + 1, 1, none⟩ = some (.int .u64 n') := (by rw [hc4 _ _ (by first | (simp; done) | (simp; omega) | omega)]; (first | (simp; done) | (simp [*]; done) | go_simp))
  have hk4_5 : w4.cell? ⟨w.heap.size + 1, 2, none⟩ = some (.string b') := (by rw [hc4 _ _ (by first | (simp; done) | (simp; omega) | omega)]; (first | (simp; done) | (simp [*]; done) | go_simp))
  go_wp2_with fail
  go_ret2
  exact RetI.mk' rfl rfl (by (repeat (with_reducible first | exact Fr.refl _ | assumption | refine Fr.alloc ?_ _ | refine Fr.drew ?_ | refine Fr.drewN ?_ _ | refine Fr.set ?_ (by first | (simp; done) | (simp; omega)) _ | refine Fr.trans ?_ (by assumption))))
set_option maxHeartbeats 1000000 in
theorem rord_tlt (ht : (t != t') = false) (h1 : Op.bytesLess b.toList b'.toList = true) (h2 : (b.toList == b'.toList) = false) (HK : ∀ w, Calls Tryz.prog 115 #[.agg #[.int .i64 t, .int .u64 n, .string b]] w fun e w' => e = .returned (.int .i64 0) ∧ Fr w w') (HK' : ∀ w, Calls Tryz.prog 115 #[.agg #[.int .i64 t', .int .u64 n', .string b']] w fun e w' => e = .returned (.int .i64 0) ∧ Fr w w') (HG : ∀ w, Calls Tryz.prog 203 #[.int .i64 t] w fun e w' => e = .returned (.bool false) ∧ Fr w w')
    (HS : ∀ w, Calls Tryz.prog 104 #[.int .i64 t] w fun e w' => e = .returned (.int .i64 0) ∧ Fr w w') : Calls Tryz.prog 184 #[.agg #[.int .i64 t, .int .u64 n, .string b], .agg #[.int .i64 t', .int .u64 n', .string b']] w fun e w' => RetI (-1) 0 w e w' := by
  go_enter Tryz.func184, Tryz.ntmps184
  go_wp2_with fail
  refine (HK _).mono ?_
  rintro e w1 ⟨rfl, hF1⟩
  have hz1 := hF1.size; (try simp at hz1)
  (try (have hz1_0 : w.heap.size < w1.heap.size := (by omega)))
  (try (have hz1_1 : w.heap.size + 1 < w1.heap.size := (by omega)))
  have hc1 := hF1.cells
  have hf1 := hF1.froz
  have hg1_0 : ∀ o, w1.frozen? ⟨w.heap.size, o, none⟩ = false := (by intro o; rw [hf1 _ _ (by first | (simp; done) | (simp; omega) | omega)]; (first | (simp; done) | (simp [*]; done) | go_simp))
  have hk1_0 : w1.cell? ⟨w.heap.size, 0, none⟩ = some (.int .i64 t) := (by rw [hc1 _ _ (by first | (simp; done) | (simp; omega) | omega)]; (first | (simp; done) | (simp [*]; done) | go_simp))
  have hk1_1 : w1.cell? ⟨w.heap.size, 1, none⟩ = some (.int .u64 n) := (by rw [hc1 _ _ (by first | (simp; done) | (simp; omega) | omega)]; (first | (simp; done) | (simp [*]; done) | go_simp))
  have hk1_2 : w1.cell? ⟨w.heap.size, 2, none⟩ = some (.string b) := (by rw [hc1 _ _ (by first | (simp; done) | (simp; omega) | omega)]; (first | (simp; done) | (simp [*]; done) | go_simp))
  have hg1_3 : ∀ o, w1.frozen? ⟨w.heap.size + 1, o, none⟩ = false := (by intro o; rw [hf1 _ _ (by first | (simp; done) | (simp; omega) | omega)]; (first | (simp; done) | (simp [*]; done) | go_simp))
  have hk1_3 : w1.cell? ⟨w.heap.size + 1, 0, none⟩ = some (.int .i64 t') := (by rw [hc1 _ _ (by first | (simp; done) | (simp; omega) | omega)]; (first | (simp; done) | (simp [*]; done) | go_simp))
  have hk1_4 : w1.cell? ⟨w.heap.size + 1, 1, none⟩ = some (.int .u64 n') := (by rw [hc1 _ _ (by first | (simp; done) | (simp; omega) | omega)]; (first | (simp; done) | (simp [*]; done) | go_simp))
  have hk1_5 : w1.cell? ⟨w.heap.size + 1, 2, none⟩ = some (.string b') := (by rw [hc1 _ _ (by first | (simp; done) | (simp; omega) | omega)]; (first | (simp; done) | (simp [*]; done) | go_simp))
  go_wp2_with fail
  refine (HK' _).mono ?_
  rintro e w2 ⟨rfl, hF2⟩
  have hz2 := hF2.size; (try simp at hz2)
  (try (have hz2_0 : w.heap.size < w2.heap.size := (by omega)))
  (try (have hz2_1 : w.heap.size + 1 < w2.heap.size := (by omega)))
  have hc2 := hF2.cells
  have hf2 := hF2.froz
  have hg2_0 : ∀ o, w2.frozen? ⟨w.heap.size, o, none⟩ = false := (by intro o; rw [hf2 _ _ (by first | (simp; done) | (simp; omega) | omega)]; (first | (simp; done) | (simp [*]; done) | go_simp))
  have hk2_0 : w2.cell? ⟨w.heap.size, 0, none⟩ = some (.int .i64 t) := (by rw [hc2 _ _ (by first | (simp; done) | (simp; omega) | omega)]; (first | (simp; done) | (simp [*]; done) | go_simp))
  have hk2_1 : w2.cell? ⟨w.heap.size, 1, none⟩ = some (.int .u64 n) := (by rw [hc2 _ _ (by first | (simp; done) | (simp; omega) | omega)]; (first | (simp; done) | (simp [*]; done) | go_simp))
  have hk2_2 : w2.cell? ⟨w.heap.size, 2, none⟩ = some (.string b) := (by rw [hc2 _ _ (by first | (simp; done) | (simp; omega) | omega)]; (first | (simp; done) | (simp [*]; done) | go_simp))
  have hg2_3 : ∀ o, w2.frozen? ⟨w.heap.size + 1, o, none⟩ = false := (by intro o; rw [hf2 _ _ (by first | (simp; done) | (simp; omega) | omega)]; (first | (simp; done) | (simp [*]; done) | go_simp))
  have hk2_3 : w2.cell? ⟨w.heap.size + 1, 0, none⟩ = some (.int .i64 t') := (by rw [hc2 _ _ (by first | (simp; done) | (simp; omega) | omega)]; (first | (simp; done) | (simp [*]; done) | go_simp))
  have hk2_4 : w2.cell? ⟨w.heap.size + 1, 1, none⟩ = some (.int .u64 n') := (by rw [hc2 _ _ (by first | (simp; done) | (simp; omega) | omega)]; (first | (simp; done) | (simp [*]; done) | go_simp))
  have hk2_5 : w2.cell? ⟨w.heap.size + 1, 2, none⟩ = some (.string b') := (by rw [hc2 _ _ (by first | (simp; done) | (simp; omega) | omega)]; (first | (simp; done) | (simp [*]; done) | go_simp))
  go_wp2_with fail
  go_quiet (fail)
  go_wp2_with fail
  refine (HG _).mono ?_
  rintro e w3 ⟨rfl, hF3⟩
  have hz3 := hF3.size; (try simp at hz3)
  (try (have hz3_0 : w.heap.size < w3.heap.size := (by omega)))
  (try (have hz3_1 : w.heap.size + 1 < w3.heap.size := (by omega)))
  have hc3 := hF3.cells
  have hf3 := hF3.froz
  have hg3_0 : ∀ o, w3.frozen? ⟨w.heap.size, o, none⟩ = false := (by intro o; rw [hf3 _ _ (by first | (simp; done) | (simp; omega) | omega)]; (first | (simp; done) | (simp [*]; done) | go_simp))
  have hk3_0 : w3.cell? ⟨w.heap.size, 0, none⟩ = some (.int .i64 t) := (by rw [hc3 _ _ (by first | (simp; done) | (simp; omega) | omega)]; (first | (simp; done) | (simp [*]; done) | go_simp))
  have hk3_1 : w3.cell? ⟨w.heap.size, 1, none⟩ = some (.int .u64 n) := (by rw [hc3 _ _ (by first | (simp; done) | (simp; omega) | omega)]; (first | (simp; done) | (simp [*]; done) | go_simp))
  have hk3_2 : w3.cell? ⟨w.heap.size, 2, none⟩ = some (.string b) := (by rw [hc3 _ _ (by first | (simp; done) | (simp; omega) | omega)]; (first | (simp; done) | (simp [*]; done) | go_simp))
  have hg3_3 : ∀ o, w3.frozen? ⟨w.heap.size + 1, o, none⟩ = false := (by intro o; rw [hf3 _ _ (by first | (simp; done) | (simp; omega) | omega)]; (first | (simp; done) | (simp [*]; done) | go_simp))
  have hk3_3 : w3.cell? ⟨w.heap.size + 1, 0, none⟩ = some (.int .i64 t') := (by rw [hc3 _ _ (by first | (simp; done) | (simp; omega) | omega)]; (first | (simp; done) | (simp [*]; done) | go_simp))
  have hk3_4 : w3.cell? ⟨w.heap.size + 1, 1, none⟩ = some (.int .u64 n') := (by rw [hc3 _ _ (by first | (simp; done) | (simp; omega) | omega)]; (first | (simp; done) | (simp [*]; done) | go_simp))
  have hk3_5 : w3.cell? ⟨w.heap.size + 1, 2, none⟩ = some (.string b') := (by rw [hc3 _ _ (by first | (simp; done) | (simp; omega) | omega)]; (first | (simp; done) | (simp [*]; done) | go_simp))
  go_wp2_with fail
  refine (HS _).mono ?_
  rintro e w4 ⟨rfl, hF4⟩
  have hz4 := hF4.size; (try simp at hz4)
  (try (have hz4_0 : w.heap.size < w4.heap.size := (by omega)))
  (try (have hz4_1 : w.heap.size + 1 < w4.heap.size := (by omega)))
  have hc4 := hF4.cells
  have hf4 := hF4.froz
  have hg4_0 : ∀ o, w4.frozen? ⟨w.heap.size, o, none⟩ = false := (by intro o; rw [hf4 _ _ (by first | (simp; done) | (simp; omega) | omega)]; (first | (simp; done) | (simp [*]; done) | go_simp))
  have hk4_0 : w4.cell? ⟨w.heap.size, 0, none⟩ = some (.int .i64 t) := (by rw [hc4 _ _ (by first | (simp; done) | (simp; omega) | omega)]; (first | (simp; done) | (simp [*]; done) | go_simp))
  have hk4_1 : w4.cell? ⟨w.heap.size, 1, none⟩ = some (.int .u64 n) := (by rw [hc4 _ _ (by first | (simp; done) | (simp; omega) | omega)]; (first | (simp; done) | (simp [*]; done) | go_simp))
  have hk4_2 : w4.cell? ⟨w.heap.size, 2, none⟩ = some (.string b) := (by rw [hc4 _ _ (by first | (simp; done) | (simp; omega) | omega)]; (first | (simp; done) | (simp [*]; done) | go_simp))
  have hg4_3 : ∀ o, w4.frozen? ⟨w.heap.size + 1, o, none⟩ = false := (by intro o; rw [hf4 _ _ (by first | (simp; done) | (simp; omega) | omega)]; (first | (simp; done) | (simp [*]; done) | go_simp))
  have hk4_3 : w4.cell? ⟨w.heap.size + 1, 0, none⟩ = some (.int .i64 t') := (by rw [hc4 _ _ (by first | (simp; done) | (simp; omega) | omega)]; (first | (simp; done) | (simp [*]; done) | go_simp))
  have hk4_4 : w4.cell? ⟨w.heap.size + 1, 1, none⟩ = some (.int .u64 n') := (by rw [hc4 _ _ (by first | (simp; done) | (simp; omega) | omega)]; (first | (simp; done) | (simp [*]; done) | go_simp))
  have hk4_5 : w4.cell? ⟨w.heap.size + 1, 2, none⟩ = some (.string b') := (by rw [hc4 _ _ (by first | (simp; done) | (simp; omega) | omega)]; (first | (simp; done) | (simp [*]; done) | go_simp))
  go_wp2_with fail
  go_quiet (fail)
  go_wp2_with fail
  go_ret2
  exact RetI.mk' rfl rfl (by (repeat (with_reducible first | exact Fr.refl _ | assumption | refine Fr.alloc ?_ _ | refine Fr.drew ?_ | refine Fr.drewN ?_ _ | refine Fr.set ?_ (by first | (simp; done) | (simp; omega)) _ | refine Fr.trans ?_ (by assumption))))
set_option maxHeartbeats 1000000 in
theorem rord_tgt (ht : (t != t') = false) (h1 : Op.bytesLess b.toList b'.toList = false) (h2 : (b.toList == b'.toList) = false) (HK : ∀ w, Calls Tryz.prog 115 #[.agg #[.int .i64 t, .int .u64 n, .string b]] w fun e w' => e = .returned (.int .i64 0) ∧ Fr w w') (HK' : ∀ w, Calls Tryz.prog 115 #[.agg #[.int .i64 t', .int .u64 n', .string b']] w fun e w' => e = .returned (.int .i64 0) ∧ Fr w w') (HG : ∀ w, Calls Tryz.prog 203 #[.int .i64 t] w fun e w' => e = .returned (.bool false) ∧ Fr w w')
    (HS : ∀ w, Calls Tryz.prog 104 #[.int .i64 t] w fun e w' => e = .returned (.int .i64 0) ∧ Fr w w') : Calls Tryz.prog 184 #[.agg #[.int .i64 t, .int .u64 n, .string b], .agg #[.int .i64 t', .int .u64 n', .string b']] w fun e w' => RetI (1) 0 w e w' := by
  go_enter Tryz.func184, Tryz.ntmps184
  go_wp2_with fail
  refine (HK _).mono ?_
  rintro e w1 ⟨rfl, hF1⟩
  have hz1 := hF1.size; (try simp at hz1)
  (try (have hz1_0 : w.heap.size < w1.heap.size := (by omega)))
  (try (have hz1_1 : w.heap.size + 1 < w1.heap.size := (by omega)))
  have hc1 := hF1.cells
  have hf1 := hF1.froz
  have hg1_0 : ∀ o, w1.frozen? ⟨w.heap.size, o, none⟩ = false := (by intro o; rw [hf1 _ _ (by first | (simp; done) | (simp; omega) | omega)]; (first | (simp; done) | (simp [*]; done) | go_simp))
  have hk1_0 : w1.cell? ⟨w.heap.size, 0, none⟩ = some (.int .i64 t) := (by rw [hc1 _ _ (by first | (simp; done) | (simp; omega) | omega)]; (first | (simp; done) | (simp [*]; done) | go_simp))
  have hk1_1 : w1.cell? ⟨w.heap.size, 1, none⟩ = some (.int .u64 n) := (by rw [hc1 _ _ (by first | (simp; done) | (simp; omega) | omega)]; (first | (simp; done) | (simp [*]; done) | go_simp))
  have hk1_2 : w1.cell? ⟨w.heap.size, 2, none⟩ = some (.string b) := (by rw [hc1 _ _ (by first | (simp; done) | (simp; omega) | omega)]; (first | (simp; done) | (simp [*]; done) | go_simp))
  have hg1_3 : ∀ o, w1.frozen? ⟨w.heap.size + 1, o, none⟩ = false := (by intro o; rw [hf1 _ _ (by first | (simp; done) | (simp; omega) | omega)]; (first | (simp; done) | (simp [*]; done) | go_simp))
  have hk1_3 : w1.cell? ⟨w.heap.size + 1, 0, none⟩ = some (.int .i64 t') := (by rw [hc1 _ _ (by first | (simp; done) | (simp; omega) | omega)]; (first | (simp; done) | (simp [*]; done) | go_simp))
  have hk1_4 : w1.cell? ⟨w.heap.size + 1, 1, none⟩ = some (.int .u64 n') := (by rw [hc1 _ _ (by first | (simp; done) | (simp; omega) | omega)]; (first | (simp; done) | (simp [*]; done) | go_simp))
  have hk1_5 : w1.cell? ⟨w.heap.size + 1, 2, none⟩ = some (.string b') := (by rw [hc1 _ _ (by first | (simp; done) | (simp; omega) | omega)]; (first | (simp; done) | (simp [*]; done) | go_simp))
  go_wp2_with fail
  refine (HK' _).mono ?_
  rintro e w2 ⟨rfl, hF2⟩
  have hz2 := hF2.size; (try simp at hz2)
  (try (have hz2_0 : w.heap.size < w2.heap.size := (by omega)))
  (try (have hz2_1 : w.heap.size + 1 < w2.heap.size := (by omega)))
  have hc2 := hF2.cells
  have hf2 := hF2.froz
  have hg2_0 : ∀ o, w2.frozen? ⟨w.heap.size, o, none⟩ = false := (by intro o; rw [hf2 _ _ (by first | (simp; done) | (simp; omega) | omega)]; (first | (simp; done) | (simp [*]; done) | go_simp))
  have hk2_0 : w2.cell? ⟨w.heap.size, 0, none⟩ = some (.int .i64 t) := (by rw [hc2 _ _ (by first | (simp; done) | (simp; omega) | omega)]; (first | (simp; done) | (simp [*]; done) | go_simp))
  have hk2_1 : w2.cell? ⟨w.heap.size, 1, none⟩ = some (.int .u64 n) := (by rw [hc2 _ _ (by first | (simp; done) | (simp; omega) | omega)]; (first | (simp; done) | (simp [*]; done) | go_simp))
  have hk2_2 : w2.cell? ⟨w.heap.size, 2, none⟩ = some (.string b) := (by rw [hc2 _ _ (by first | (simp; done) | (simp; omega) | omega)]; (first | (simp; done) | (simp [*]; done) | go_simp))
  have hg2_3 : ∀ o, w2.frozen? ⟨w.heap.size + 1, o, none⟩ = false := (by intro o; rw [hf2 _ _ (by first | (simp; done) | (simp; omega) | omega)]; (first | (simp; done) | (simp [*]; done) | go_simp))
  have hk2_3 : w2.cell? ⟨w.heap.size + 1, 0, none⟩ = some (.int .i64 t') := (by rw [hc2 _ _ (by first | (simp; done) | (simp; omega) | omega)]; (first | (simp; done) | (simp [*]; done) | go_simp))
  have hk2_4 : w2.cell? ⟨w.heap.size + 1, 1, none⟩ = some (.int .u64 n') := (by rw [hc2 _ _ (by first | (simp; done) | (simp; omega) | omega)]; (first | (simp; done) | (simp [*]; done) | go_simp))
  have hk2_5 : w2.cell? ⟨w.heap.size + 1, 2, none⟩ = some (.string b') := (by rw [hc2 _ _ (by first | (simp; done) | (simp; omega) | omega)]; (first | (simp; done) | (simp [*]; done) | go_simp))
  go_wp2_with fail
  go_quiet (fail)
  go_wp2_with fail
  refine (HG _).mono ?_
  rintro e w3 ⟨rfl, hF3⟩
  have hz3 := hF3.size; (try simp at hz3)
  (try (have hz3_0 : w.heap.size < w3.heap.size := (by omega)))
  (try (have hz3_1 : w.heap.size + 1 < w3.heap.size := (by omega)))
  have hc3 := hF3.cells
  have hf3 := hF3.froz
  have hg3_0 : ∀ o, w3.frozen? ⟨w.heap.size, o, none⟩ = false := (by intro o; rw [hf3 _ _ (by first | (simp; done) | (simp; omega) | omega)]; (first | (simp; done) | (simp [*]; done) | go_simp))
  have hk3_0 : w3.cell? ⟨w.heap.size, 0, none⟩ = some (.int .i64 t) := (by rw [hc3 _ _ (by first | (simp; done) | (simp; omega) | omega)]; (first | (simp; done) | (simp [*]; done) | go_simp))
  have hk3_1 : w3.cell? ⟨w.heap.size, 1, none⟩ = some (.int .u64 n) := (by rw [hc3 _ _ (by first | (simp; done) | (simp; omega) | omega)]; (first | (simp; done) | (simp [*]; done) | go_simp))
  have hk3_2 : w3.cell? ⟨w.heap.size, 2, none⟩ = some (.string b) := (by rw [hc3 _ _ (by first | (simp; done) | (simp; omega) | omega)]; (first | (simp; done) | (simp [*]; done) | go_simp))
  have hg3_3 : ∀ o, w3.frozen? ⟨w.heap.size + 1, o, none⟩ = false := (by intro o; rw [hf3 _ _ (by first | (simp; done) | (simp; omega) | omega)]; (first | (simp; done) | (simp [*]; done) | go_simp))
  have hk3_3 : w3.cell? ⟨w.heap.size + 1, 0, none⟩ = some (.int .i64 t') := (by rw [hc3 _ _ (by first | (simp; done) | (simp; omega) | omega)]; (first | (simp; done) | (simp [*]; done) | go_simp))
  have hk3_4 : w3.cell? ⟨w.heap.size + 1, 1, none⟩ = some (.int .u64 n') := (by rw [hc3 _ _ (by first | (simp; done) | (simp; omega) | omega)]; (first | (simp; done) | (simp [*]; done) | go_simp))
  have hk3_5 : w3.cell? ⟨w.heap.size + 1, 2, none⟩ = some (.string b') := (by rw [hc3 _ _ (by first | (simp; done) | (simp; omega) | omega)]; (first | (simp; done) | (simp [*]; done) | go_simp))
  go_wp2_with fail
  refine (HS _).mono ?_
  rintro e w4 ⟨rfl, hF4⟩
  have hz4 := hF4.size; (try simp at hz4)
  (try (have hz4_0 : w.heap.size < w4.heap.size := (by omega)))
  (try (have hz4_1 : w.heap.size + 1 < w4.heap.size := (by omega)))
  have hc4 := hF4.cells
  have hf4 := hF4.froz
  have hg4_0 : ∀ o, w4.frozen? ⟨w.heap.size, o, none⟩ = false := (by intro o; rw [hf4 _ _ (by first | (simp; done) | (simp; omega) | omega)]; (first | (simp; done) | (simp [*]; done) | go_simp))
  have hk4_0 : w4.cell? ⟨w.heap.size, 0, none⟩ = some (.int .i64 t) := (by rw [hc4 _ _ (by first | (simp; done) | (simp; omega) | omega)]; (first | (simp; done) | (simp [*]; done) | go_simp))
  have hk4_1 : w4.cell? ⟨w.heap.size, 1, none⟩ = some (.int .u64 n) := (by rw [hc4 _ _ (by first | (simp; done) | (simp; omega) | omega)]; (first | (simp; done) | (simp [*]; done) | go_simp))
  have hk4_2 : w4.cell? ⟨w.heap.size, 2, none⟩ = some (.string b) := (by rw [hc4 _ _ (by first | (simp; done) | (simp; omega) | omega)]; (first | (simp; done) | (simp [*]; done) | go_simp))
  have hg4_3 : ∀ o, w4.frozen? ⟨w.heap.size + 1, o, none⟩ = false := (by intro o; rw [hf4 _ _ (by first | (simp; done) | (simp; omega) | omega)]; (first | (simp; done) | (simp [*]; done) | go_simp))
  have hk4_3 : w4.cell? ⟨w.heap.size + 1, 0, none⟩ = some (.int .i64 t') := (by rw [hc4 _ _ (by first | (simp; done) | (simp; omega) | omega)]; (first | (simp; done) | (simp [*]; done) | go_simp))
  have hk4_4 : w4.cell? ⟨w.heap.size + 1, 1, none⟩ = some (.int .u64 n') := (by rw [hc4 _ _ (by first | (simp; done) | (simp; omega) | omega)]; (first | (simp; done) | (simp [*]; done) | go_simp))
  have hk4_5 : w4.cell? ⟨w.heap.size + 1, 2, none⟩ = some (.string b') := (by rw [hc4 _ _ (by first | (simp; done) | (simp; omega) | omega)]; (first | (simp; done) | (simp [*]; done) | go_simp))
  go_wp2_with fail
  go_quiet (fail)
  go_wp2_with fail
  go_ret2
  exact RetI.mk' rfl rfl (by (repeat (with_reducible first | exact Fr.refl _ | assumption | refine Fr.alloc ?_ _ | refine Fr.drew ?_ | refine Fr.drewN ?_ _ | refine Fr.set ?_ (by first | (simp; done) | (simp; omega)) _ | refine Fr.trans ?_ (by assumption))))
set_option maxHeartbeats 1000000 in
theorem rord_teq (ht : (t != t') = false) (h1 : Op.bytesLess b.toList b'.toList = false) (h2 : (b.toList == b'.toList) = true) (HK : ∀ w, Calls Tryz.prog 115 #[.agg #[.int .i64 t, .int .u64 n, .string b]] w fun e w' => e = .returned (.int .i64 0) ∧ Fr w w') (HK' : ∀ w, Calls Tryz.prog 115 #[.agg #[.int .i64 t', .int .u64 n', .string b']] w fun e w' => e = .returned (.int .i64 0) ∧ Fr w w') (HG : ∀ w, Calls Tryz.prog 203 #[.int .i64 t] w fun e w' => e = .returned (.bool false) ∧ Fr w w')
    (HS : ∀ w, Calls Tryz.prog 104 #[.int .i64 t] w fun e w' => e = .returned (.int .i64 0) ∧ Fr w w') : Calls Tryz.prog 184 #[.agg #[.int .i64 t, .int .u64 n, .string b], .agg #[.int .i64 t', .int .u64 n', .string b']] w fun e w' => RetI (0) 0 w e w' := by
  go_enter Tryz.func184, Tryz.ntmps184
  go_wp2_with fail
  refine (HK _).mono ?_
  rintro e w1 ⟨rfl, hF1⟩
  have hz1 := hF1.size; (try simp at hz1)
  (try (have hz1_0 : w.heap.size < w1.heap.size := (by omega)))
  (try (have hz1_1 : w.heap.size + 1 < w1.heap.size := (by omega)))
  have hc1 := hF1.cells
  have hf1 := hF1.froz
  have hg1_0 : ∀ o, w1.frozen? ⟨w.heap.size, o, none⟩ = false := (by intro o; rw [hf1 _ _ (by first | (simp; done) | (simp; omega) | omega)]; (first | (simp; done) | (simp [*]; done) | go_simp))
  have hk1_0 : w1.cell? ⟨w.heap.size, 0, none⟩ = some (.int .i64 t) := (by rw [hc1 _ _ (by first | (simp; done) | (simp; omega) | omega)]; (first | (simp; done) | (simp [*]; done) | go_simp))
  have hk1_1 : w1.cell? ⟨w.heap.size, 1, none⟩ = some (.int .u64 n) := (by rw [hc1 _ _ (by first | (simp; done) | (simp; omega) | omega)]; (first | (simp; done) | (simp [*]; done) | go_simp))
  have hk1_2 : w1.cell? ⟨w.heap.size, 2, none⟩ = some (.string b) := (by rw [hc1 _ _ (by first | (simp; done) | (simp; omega) | omega)]; (first | (simp; done) | (simp [*]; done) | go_simp))
  have hg1_3 : ∀ o, w1.frozen? ⟨w.heap.size + 1, o, none⟩ = false := (by intro o; rw [hf1 _ _ (by first | (simp; done) | (simp; omega) | omega)]; (first | (simp; done) | (simp [*]; done) | go_simp))
  have hk1_3 : w1.cell? ⟨w.heap.size + 1, 0, none⟩ = some (.int .i64 t') := (by rw [hc1 _ _ (by first | (simp; done) | (simp; omega) | omega)]; (first | (simp; done) | (simp [*]; done) | go_simp))
  have hk1_4 : w1.cell? ⟨w.heap.size + 1, 1, none⟩ = some (.int .u64 n') := (by rw [hc1 _ _ (by first | (simp; done) | (simp; omega) | omega)]; (first | (simp; done) | (simp [*]; done) | go_simp))
  have hk1_5 : w1.cell? ⟨w.heap.size + 1, 2, none⟩ = some (.string b') := (by rw [hc1 _ _ (by first | (simp; done) | (simp; omega) | omega)]; (first | (simp; done) | (simp [*]; done) | go_simp))
  go_wp2_with fail
  refine (HK' _).mono ?_
  rintro e w2 ⟨rfl, hF2⟩
  have hz2 := hF2.size; (try simp at hz2)
  (try (have hz2_0 : w.heap.size < w2.heap.size := (by omega)))
  (try (have hz2_1 : w.heap.size + 1 < w2.heap.size := (by omega)))
  have hc2 := hF2.cells
  have hf2 := hF2.froz
  have hg2_0 : ∀ o, w2.frozen? ⟨w.heap.size, o, none⟩ = false := (by intro o; rw [hf2 _ _ (by first | (simp; done) | (simp; omega) | omega)]; (first | (simp; done) | (simp [*]; done) | go_simp))
  have hk2_0 : w2.cell? ⟨w.heap.size, 0, none⟩ = some (.int .i64 t) := (by rw [hc2 _ _ (by first | (simp; done) | (simp; omega) | omega)]; (first | (simp; done) | (simp [*]; done) | go_simp))
  have hk2_1 : w2.cell? ⟨w.heap.size, 1, none⟩ = some (.int .u64 n) := (by rw [hc2 _ _ (by first | (simp; done) | (simp; omega) | omega)]; (first | (simp; done) | (simp [*]; done) | go_simp))
  have hk2_2 : w2.cell? ⟨w.heap.size, 2, none⟩ = some (.string b) := (by rw [hc2 _ _ (by first | (simp; done) | (simp; omega) | omega)]; (first | (simp; done) | (simp [*]; done) | go_simp))
  have hg2_3 : ∀ o, w2.frozen? ⟨w.heap.size + 1, o, none⟩ = false := (by intro o; rw [hf2 _ _ (by first | (simp; done) | (simp; omega) | omega)]; (first | (simp; done) | (simp [*]; done) | go_simp))
  have hk2_3 : w2.cell? ⟨w.heap.size + 1, 0, none⟩ = some (.int .i64 t') := (by rw [hc2 _ _ (by first | (simp; done) | (simp; omega) | omega)]; (first | (simp; done) | (simp [*]; done) | go_simp))
  have hk2_4 : w2.cell? ⟨w.heap.size + 1, 1, none⟩ = some (.int .u64 n') := (by rw [hc2 _ _ (by first | (simp; done) | (simp; omega) | omega)]; (first | (simp; done) | (simp [*]; done) | go_simp))
  have hk2_5 : w2.cell? ⟨w.heap.size + 1, 2, none⟩ = some (.string b') := (by rw [hc2 _ _ (by first | (simp; done) | (simp; omega) | omega)]; (first | (simp; done) | (simp [*]; done) | go_simp))
  go_wp2_with fail
  go_quiet (fail)
  go_wp2_with fail
  refine (HG _).mono ?_
  rintro e w3 ⟨rfl, hF3⟩
  have hz3 := hF3.size; (try simp at hz3)
  (try (have hz3_0 : w.heap.size < w3.heap.size := (by omega)))
  (try (have hz3_1 : w.heap.size + 1 < w3.heap.size := (by omega)))
  have hc3 := hF3.cells
  have hf3 := hF3.froz
  have hg3_0 : ∀ o, w3.frozen? ⟨w.heap.size, o, none⟩ = false := (by intro o; rw [hf3 _ _ (by first | (simp; done) | (simp; omega) | omega)]; (first | (simp; done) | (simp [*]; done) | go_simp))
  have hk3_0 : w3.cell? ⟨w.heap.size, 0, none⟩ = some (.int .i64 t) := (by rw [hc3 _ _ (by first | (simp; done) | (simp; omega) | omega)]; (first | (simp; done) | (simp [*]; done) | go_simp))
  have hk3_1 : w3.cell? ⟨w.heap.size, 1, none⟩ = some (.int .u64 n) := (by rw [hc3 _ _ (by first | (simp; done) | (simp; omega) | omega)]; (first | (simp; done) | (simp [*]; done) | go_simp))
  have hk3_2 : w3.cell? ⟨w.heap.size, 2, none⟩ = some (.string b) := (by rw [hc3 _ _ (by first | (simp; done) | (simp; omega) | omega)]; (first | (simp; done) | (simp [*]; done) | go_simp))
  have hg3_3 : ∀ o, w3.frozen? ⟨w.heap.size + 1, o, none⟩ = false := (by intro o; rw [hf3 _ _ (by first | (simp; done) | (simp; omega) | omega)]; (first | (simp; done) | (simp [*]; done) | go_simp))
  have hk3_3 : w3.cell? ⟨w.heap.size + 1, 0, none⟩ = some (.int .i64 t') := (by rw [hc3 _ _ (by first | (simp; done) | (simp; omega) | omega)]; (first | (simp; done) | (simp [*]; done) | go_simp))
  have hk3_4 : w3.cell? ⟨w.heap.size + 1, 1, none⟩ = some (.int .u64 n') := (by rw [hc3 _ _ (by first | (simp; done) | (simp; omega) | omega)]; (first | (simp; done) | (simp [*]; done) | go_simp))
  have hk3_5 : w3.cell? ⟨w.heap.size + 1, 2, none⟩ = some (.string b') := (by rw [hc3 _ _ (by first | (simp; done) | (simp; omega) | omega)]; (first | (simp; done) | (simp [*]; done) | go_simp))
  go_wp2_with fail
  refine (HS _).mono ?_
  rintro e w4 ⟨rfl, hF4⟩
  have hz4 := hF4.size; (try simp at hz4)
  (try (have hz4_0 : w.heap.size < w4.heap.size := (by omega)))
  (try (have hz4_1 : w.heap.size + 1 < w4.heap.size := (by omega)))
  have hc4 := hF4.cells
  have hf4 := hF4.froz
  have hg4_0 : ∀ o, w4.frozen? ⟨w.heap.size, o, none⟩ = false := (by intro o; rw [hf4 _ _ (by first | (simp; done) | (simp; omega) | omega)]; (first | (simp; done) | (simp [*]; done) | go_simp))
  have hk4_0 : w4.cell? ⟨w.heap.size, 0, none⟩ = some (.int .i64 t) := (by rw [hc4 _ _ (by first | (simp; done) | (simp; omega) | omega)]; (first | (simp; done) | (simp [*]; done) | go_simp))
  have hk4_1 : w4.cell? ⟨w.heap.size, 1, none⟩ = some (.int .u64 n) := (by rw [hc4 _ _ (by first | (simp; done) | (simp; omega) | omega)]; (first | (simp; done) | (simp [*]; done) | go_simp))
  have hk4_2 : w4.cell? ⟨w.heap.size, 2, none⟩ = some (.string b) := (by rw [hc4 _ _ (by first | (simp; done) | (simp; omega) | omega)]; (first | (simp; done) | (simp [*]; done) | go_simp))
  have hg4_3 : ∀ o, w4.frozen? ⟨w.heap.size + 1, o, none⟩ = false := (by intro o; rw [hf4 _ _ (by first | (simp; done) | (simp; omega) | omega)]; (first | (simp; done) | (simp [*]; done) | go_simp))
  have hk4_3 : w4.cell? ⟨w.heap.size + 1, 0, none⟩ = some (.int .i64 t') := (by rw [hc4 _ _ (by first | (simp; done) | (simp; omega) | omega)]; (first | (simp; done) | (simp [*]; done) | go_simp))
  have hk4_4 : w4.cell? ⟨w.heap.size + 1, 1, none⟩ = some (.int .u64 n') := (by rw [hc4 _ _ (by first | (simp; done) | (simp; omega) | omega)]; (first | (simp; done) | (simp [*]; done) | go_simp))
  have hk4_5 : w4.cell? ⟨w.heap.size + 1, 2, none⟩ = some (.string b') := (by rw [hc4 _ _ (by first | (simp; done) | (simp; omega) | omega)]; (first | (simp; done) | (simp [*]; done) | go_simp))
  go_wp2_with fail
  go_quiet (fail)
  go_wp2_with fail
  go_ret2
  exact RetI.mk' rfl rfl (by (repeat (with_reducible first | exact Fr.refl _ | assumption | refine Fr.alloc ?_ _ | refine Fr.drew ?_ | refine Fr.drewN ?_ _ | refine Fr.set ?_ (by first | (simp; done) | (simp; omega)) _ | refine Fr.trans ?_ (by assumption))))
end

/-- ref07's Order. -/
theorem rorder_any (a b : V) (ha : a.wf) (hb : b.wf) (w : World) : Calls Tryz.prog 184 #[a.agg, b.agg] w fun e w' => RetI (ordN a b) (ordE a b) w e w' := by
  have HA := rcheck_any a ha
  have HB := rcheck_any b hb
  have HG := rsigned_any a.t
  have HS := rsize_any a.t
  obtain ⟨h0, hn⟩ := ha
  obtain ⟨h0', hn'⟩ := hb
  by_cases ea : chkV a = 0
  · by_cases eb : chkV b = 0
    · rw [ea] at HA
      rw [eb] at HB
      by_cases et : a.t = b.t
      · have e : ordE a b = 0 := by unfold ordE; simp [ea, eb, et]
        unfold ordN
        rw [if_neg (by simp [e]), e]
        have et' := bne_false et
        by_cases es : szOf a.t = 0
        · rw [if_pos es]
          rw [es] at HS
          have hg : sgOf a.t = false := by
            cases hg : sgOf a.t
            · rfl
            · have := sg_sz hg; omega
          rw [hg] at HG
          have hl := less_cmp a.b.data.toList b.b.data.toList
          have hl2 := less_cmp a.b.toList b.b.toList
          rw [toList_data, toList_data] at hl2
          rcases cmp_cases a.b.data.toList b.b.data.toList with hc | hc | hc
          · have hne : a.b.data.toList ≠ b.b.data.toList := fun hh => by rw [hh, cmp_self] at hc; exact absurd hc (by decide)
            rw [hc] at hl ⊢
            exact rord_tlt a.t a.n a.b b.t b.n b.b w et' (by rw [toList_data, toList_data, hl]; rfl) (by rw [toList_data, toList_data]; simpa using hne) HA HB HG HS
          · have he := cmp_zero _ _ hc
            rw [hc] at hl ⊢
            exact rord_teq a.t a.n a.b b.t b.n b.b w et' (by rw [toList_data, toList_data, hl]; rfl) (by rw [toList_data, toList_data, he]; simp) HA HB HG HS
          · have hne : a.b.data.toList ≠ b.b.data.toList := fun hh => by rw [hh, cmp_self] at hc; exact absurd hc (by decide)
            rw [hc] at hl ⊢
            exact rord_tgt a.t a.n a.b b.t b.n b.b w et' (by rw [toList_data, toList_data, hl]; rfl) (by rw [toList_data, toList_data]; simpa using hne) HA HB HG HS
        · rw [if_neg es]
          have es' := beq_false es
          cases hg : sgOf a.t
          · rw [if_neg (by simp)]
            rw [hg] at HG
            unfold cmpI
            by_cases h1 : a.n < b.n
            · rw [if_pos h1]; exact rord_ult a.t a.n a.b b.t b.n b.b w et' _ es' h1 HA HB HG HS
            · rw [if_neg h1]
              by_cases h2 : b.n < a.n
              · rw [if_pos h2]; exact rord_ugt a.t a.n a.b b.t b.n b.b w et' _ es' h1 h2 HA HB HG HS
              · rw [if_neg h2]; exact rord_ueq a.t a.n a.b b.t b.n b.b w et' _ es' h1 h2 HA HB HG HS
          · rw [if_pos rfl, cmp_xN a.n b.n h0 hn h0' hn']
            rw [hg] at HG
            have x1 := xor_top a.n h0 hn
            have x2 := xor_top b.n h0' hn'
            unfold cmpI
            by_cases h1 : xN a.n < xN b.n
            · rw [if_pos h1]; exact rord_slt a.t a.n a.b b.t b.n b.b w et' _ es' _ _ x1 x2 h1 HA HB HG HS
            · rw [if_neg h1]
              by_cases h2 : xN b.n < xN a.n
              · rw [if_pos h2]; exact rord_sgt a.t a.n a.b b.t b.n b.b w et' _ es' _ _ x1 x2 h1 h2 HA HB HG HS
              · rw [if_neg h2]; exact rord_seq a.t a.n a.b b.t b.n b.b w et' _ es' _ _ x1 x2 h1 h2 HA HB HG HS
      · have e : ordE a b = 1 := by unfold ordE; simp [ea, eb, et]
        unfold ordN
        rw [if_pos (by simp [e]), e]
        exact rord_diff a.t a.n a.b b.t b.n b.b w (bne_true et) HA HB
    · have e : ordE a b = chkV b := by unfold ordE; simp [ea, eb]
      rw [ea] at HA
      unfold ordN
      rw [if_pos (by rw [e]; exact eb), e]
      exact rord_b a.t a.n a.b b.t b.n b.b w _ (bne_true eb) HA HB
  · have e : ordE a b = chkV a := by unfold ordE; simp [ea]
    unfold ordN
    rw [if_pos (by rw [e]; exact ea), e]
    exact rord_a a.t a.n a.b b.t b.n b.b w _ (bne_true ea) HA

end Go.Proofs.YtmllpkpdfhniaaaGreat
