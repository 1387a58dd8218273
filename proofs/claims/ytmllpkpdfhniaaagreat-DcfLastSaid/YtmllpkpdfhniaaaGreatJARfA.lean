/- The document's types (ref07): Size, Is, Signed. -/
import Derived.Test.YtmllpkpdfhniaaaGreatJABy
set_option linter.unusedVariables false
set_option linter.unusedSimpArgs false
namespace Go.Proofs.YtmllpkpdfhniaaaGreat
open Go.RowKit

theorem rsz_1 (w : World) : Calls Tryz.prog 104 #[.int .i64 1] w fun e w' => e = .returned (.int .i64 (szOf 1)) ∧ Fr w w' := by
  go_enter Tryz.func104, Tryz.ntmps104
  go_wp2
  go_ret
  exact ⟨rfl, by (repeat (with_reducible first | exact Fr.refl _ | assumption | refine Fr.alloc ?_ _ | refine Fr.drew ?_ | refine Fr.drewN ?_ _ | refine Fr.set ?_ (by first | (simp; done) | (simp; omega)) _ | refine Fr.trans ?_ (by assumption)))⟩
theorem rsz_2 (w : World) : Calls Tryz.prog 104 #[.int .i64 2] w fun e w' => e = .returned (.int .i64 (szOf 2)) ∧ Fr w w' := by
  go_enter Tryz.func104, Tryz.ntmps104
  go_wp2
  go_ret
  exact ⟨rfl, by (repeat (with_reducible first | exact Fr.refl _ | assumption | refine Fr.alloc ?_ _ | refine Fr.drew ?_ | refine Fr.drewN ?_ _ | refine Fr.set ?_ (by first | (simp; done) | (simp; omega)) _ | refine Fr.trans ?_ (by assumption)))⟩
theorem rsz_5 (w : World) : Calls Tryz.prog 104 #[.int .i64 5] w fun e w' => e = .returned (.int .i64 (szOf 5)) ∧ Fr w w' := by
  go_enter Tryz.func104, Tryz.ntmps104
  go_wp2
  go_ret
  exact ⟨rfl, by (repeat (with_reducible first | exact Fr.refl _ | assumption | refine Fr.alloc ?_ _ | refine Fr.drew ?_ | refine Fr.drewN ?_ _ | refine Fr.set ?_ (by first | (simp; done) | (simp; omega)) _ | refine Fr.trans ?_ (by assumption)))⟩
theorem rsz_3 (w : World) : Calls Tryz.prog 104 #[.int .i64 3] w fun e w' => e = .returned (.int .i64 (szOf 3)) ∧ Fr w w' := by
  go_enter Tryz.func104, Tryz.ntmps104
  go_wp2
  go_ret
  exact ⟨rfl, by (repeat (with_reducible first | exact Fr.refl _ | assumption | refine Fr.alloc ?_ _ | refine Fr.drew ?_ | refine Fr.drewN ?_ _ | refine Fr.set ?_ (by first | (simp; done) | (simp; omega)) _ | refine Fr.trans ?_ (by assumption)))⟩
theorem rsz_6 (w : World) : Calls Tryz.prog 104 #[.int .i64 6] w fun e w' => e = .returned (.int .i64 (szOf 6)) ∧ Fr w w' := by
  go_enter Tryz.func104, Tryz.ntmps104
  go_wp2
  go_ret
  exact ⟨rfl, by (repeat (with_reducible first | exact Fr.refl _ | assumption | refine Fr.alloc ?_ _ | refine Fr.drew ?_ | refine Fr.drewN ?_ _ | refine Fr.set ?_ (by first | (simp; done) | (simp; omega)) _ | refine Fr.trans ?_ (by assumption)))⟩
theorem rsz_4 (w : World) : Calls Tryz.prog 104 #[.int .i64 4] w fun e w' => e = .returned (.int .i64 (szOf 4)) ∧ Fr w w' := by
  go_enter Tryz.func104, Tryz.ntmps104
  go_wp2
  go_ret
  exact ⟨rfl, by (repeat (with_reducible first | exact Fr.refl _ | assumption | refine Fr.alloc ?_ _ | refine Fr.drew ?_ | refine Fr.drewN ?_ _ | refine Fr.set ?_ (by first | (simp; done) | (simp; omega)) _ | refine Fr.trans ?_ (by assumption)))⟩
theorem rsz_7 (w : World) : Calls Tryz.prog 104 #[.int .i64 7] w fun e w' => e = .returned (.int .i64 (szOf 7)) ∧ Fr w w' := by
  go_enter Tryz.func104, Tryz.ntmps104
  go_wp2
  go_ret
  exact ⟨rfl, by (repeat (with_reducible first | exact Fr.refl _ | assumption | refine Fr.alloc ?_ _ | refine Fr.drew ?_ | refine Fr.drewN ?_ _ | refine Fr.set ?_ (by first | (simp; done) | (simp; omega)) _ | refine Fr.trans ?_ (by assumption)))⟩
theorem rsz_21 (w : World) : Calls Tryz.prog 104 #[.int .i64 21] w fun e w' => e = .returned (.int .i64 (szOf 21)) ∧ Fr w w' := by
  go_enter Tryz.func104, Tryz.ntmps104
  go_wp2
  go_ret
  exact ⟨rfl, by (repeat (with_reducible first | exact Fr.refl _ | assumption | refine Fr.alloc ?_ _ | refine Fr.drew ?_ | refine Fr.drewN ?_ _ | refine Fr.set ?_ (by first | (simp; done) | (simp; omega)) _ | refine Fr.trans ?_ (by assumption)))⟩
theorem rsz_27 (w : World) : Calls Tryz.prog 104 #[.int .i64 27] w fun e w' => e = .returned (.int .i64 (szOf 27)) ∧ Fr w w' := by
  go_enter Tryz.func104, Tryz.ntmps104
  go_wp2
  go_ret
  exact ⟨rfl, by (repeat (with_reducible first | exact Fr.refl _ | assumption | refine Fr.alloc ?_ _ | refine Fr.drew ?_ | refine Fr.drewN ?_ _ | refine Fr.set ?_ (by first | (simp; done) | (simp; omega)) _ | refine Fr.trans ?_ (by assumption)))⟩
theorem rsz_no (t : Int) (h1 : (t == 1) = false) (h2 : (t == 2) = false) (h5 : (t == 5) = false) (h3 : (t == 3) = false) (h6 : (t == 6) = false) (h4 : (t == 4) = false) (h7 : (t == 7) = false) (h21 : (t == 21) = false) (h27 : (t == 27) = false) (w : World) : Calls Tryz.prog 104 #[.int .i64 t] w fun e w' => e = .returned (.int .i64 0) ∧ Fr w w' := by
  go_enter Tryz.func104, Tryz.ntmps104
  go_wp2
  go_ret
  exact ⟨rfl, by (repeat (with_reducible first | exact Fr.refl _ | assumption | refine Fr.alloc ?_ _ | refine Fr.drew ?_ | refine Fr.drewN ?_ _ | refine Fr.set ?_ (by first | (simp; done) | (simp; omega)) _ | refine Fr.trans ?_ (by assumption)))⟩
theorem rsize_any (t : Int) (w : World) : Calls Tryz.prog 104 #[.int .i64 t] w fun e w' => e = .returned (.int .i64 (szOf t)) ∧ Fr w w' := by
  by_cases h1 : t = 1
  · subst h1; exact rsz_1 w
  by_cases h2 : t = 2
  · subst h2; exact rsz_2 w
  by_cases h5 : t = 5
  · subst h5; exact rsz_5 w
  by_cases h3 : t = 3
  · subst h3; exact rsz_3 w
  by_cases h6 : t = 6
  · subst h6; exact rsz_6 w
  by_cases h4 : t = 4
  · subst h4; exact rsz_4 w
  by_cases h7 : t = 7
  · subst h7; exact rsz_7 w
  by_cases h21 : t = 21
  · subst h21; exact rsz_21 w
  by_cases h27 : t = 27
  · subst h27; exact rsz_27 w
  rw [show szOf t = 0 by unfold szOf; rw [if_neg (by omega), if_neg (by omega), if_neg (by omega), if_neg (by omega)]]
  exact rsz_no t (beq_false h1) (beq_false h2) (beq_false h5) (beq_false h3) (beq_false h6) (beq_false h4) (beq_false h7) (beq_false h21) (beq_false h27) w
theorem rsg_2 (w : World) : Calls Tryz.prog 203 #[.int .i64 2] w fun e w' => e = .returned (.bool (sgOf 2)) ∧ Fr w w' := by
  go_enter Tryz.func203, Tryz.ntmps203
  go_wp2
  go_ret
  exact ⟨rfl, by (repeat (with_reducible first | exact Fr.refl _ | assumption | refine Fr.alloc ?_ _ | refine Fr.drew ?_ | refine Fr.drewN ?_ _ | refine Fr.set ?_ (by first | (simp; done) | (simp; omega)) _ | refine Fr.trans ?_ (by assumption)))⟩
theorem rsg_3 (w : World) : Calls Tryz.prog 203 #[.int .i64 3] w fun e w' => e = .returned (.bool (sgOf 3)) ∧ Fr w w' := by
  go_enter Tryz.func203, Tryz.ntmps203
  go_wp2
  go_ret
  exact ⟨rfl, by (repeat (with_reducible first | exact Fr.refl _ | assumption | refine Fr.alloc ?_ _ | refine Fr.drew ?_ | refine Fr.drewN ?_ _ | refine Fr.set ?_ (by first | (simp; done) | (simp; omega)) _ | refine Fr.trans ?_ (by assumption)))⟩
theorem rsg_4 (w : World) : Calls Tryz.prog 203 #[.int .i64 4] w fun e w' => e = .returned (.bool (sgOf 4)) ∧ Fr w w' := by
  go_enter Tryz.func203, Tryz.ntmps203
  go_wp2
  go_ret
  exact ⟨rfl, by (repeat (with_reducible first | exact Fr.refl _ | assumption | refine Fr.alloc ?_ _ | refine Fr.drew ?_ | refine Fr.drewN ?_ _ | refine Fr.set ?_ (by first | (simp; done) | (simp; omega)) _ | refine Fr.trans ?_ (by assumption)))⟩
theorem rsg_21 (w : World) : Calls Tryz.prog 203 #[.int .i64 21] w fun e w' => e = .returned (.bool (sgOf 21)) ∧ Fr w w' := by
  go_enter Tryz.func203, Tryz.ntmps203
  go_wp2
  go_ret
  exact ⟨rfl, by (repeat (with_reducible first | exact Fr.refl _ | assumption | refine Fr.alloc ?_ _ | refine Fr.drew ?_ | refine Fr.drewN ?_ _ | refine Fr.set ?_ (by first | (simp; done) | (simp; omega)) _ | refine Fr.trans ?_ (by assumption)))⟩
theorem rsg_no (t : Int) (h2 : (t == 2) = false) (h3 : (t == 3) = false) (h4 : (t == 4) = false) (h21 : (t == 21) = false) (w : World) : Calls Tryz.prog 203 #[.int .i64 t] w fun e w' => e = .returned (.bool false) ∧ Fr w w' := by
  go_enter Tryz.func203, Tryz.ntmps203
  go_wp2
  go_ret
  exact ⟨rfl, by (repeat (with_reducible first | exact Fr.refl _ | assumption | refine Fr.alloc ?_ _ | refine Fr.drew ?_ | refine Fr.drewN ?_ _ | refine Fr.set ?_ (by first | (simp; done) | (simp; omega)) _ | refine Fr.trans ?_ (by assumption)))⟩
theorem rsigned_any (t : Int) (w : World) : Calls Tryz.prog 203 #[.int .i64 t] w fun e w' => e = .returned (.bool (sgOf t)) ∧ Fr w w' := by
  by_cases h2 : t = 2
  · subst h2; exact rsg_2 w
  by_cases h3 : t = 3
  · subst h3; exact rsg_3 w
  by_cases h4 : t = 4
  · subst h4; exact rsg_4 w
  by_cases h21 : t = 21
  · subst h21; exact rsg_21 w
  rw [show sgOf t = false by unfold sgOf; simp; omega]
  exact rsg_no t (beq_false h2) (beq_false h3) (beq_false h4) (beq_false h21) w

theorem ris_n (t n : Int) (hn : 0 < n) (H : ∀ w, Calls Tryz.prog 104 #[.int .i64 t] w fun e w' => e = .returned (.int .i64 n) ∧ Fr w w') (w : World) : Calls Tryz.prog 172 #[.int .i64 t] w fun e w' => e = .returned (.bool true) ∧ Fr w w' := by
  go_enter Tryz.func172, Tryz.ntmps172
  go_wp2_with (first | (go_at_call 104; refine (H _).mono ?_; rintro e w1 ⟨rfl, hF1⟩; have hz1 := hF1.size; (try simp at hz1); have hc1 := hF1.cells; have hf1 := hF1.froz))
  go_ret
  exact ⟨rfl, by (repeat (with_reducible first | exact Fr.refl _ | assumption | refine Fr.alloc ?_ _ | refine Fr.drew ?_ | refine Fr.drewN ?_ _ | refine Fr.set ?_ (by first | (simp; done) | (simp; omega)) _ | refine Fr.trans ?_ (by assumption)))⟩
theorem ris_9 (t : Int) (h1 : (t == 9) = true) (H : ∀ w, Calls Tryz.prog 104 #[.int .i64 t] w fun e w' => e = .returned (.int .i64 0) ∧ Fr w w') (w : World) : Calls Tryz.prog 172 #[.int .i64 t] w fun e w' => e = .returned (.bool true) ∧ Fr w w' := by
  go_enter Tryz.func172, Tryz.ntmps172
  go_wp2_with (first | (go_at_call 104; refine (H _).mono ?_; rintro e w1 ⟨rfl, hF1⟩; have hz1 := hF1.size; (try simp at hz1); have hc1 := hF1.cells; have hf1 := hF1.froz))
  go_ret
  exact ⟨rfl, by (repeat (with_reducible first | exact Fr.refl _ | assumption | refine Fr.alloc ?_ _ | refine Fr.drew ?_ | refine Fr.drewN ?_ _ | refine Fr.set ?_ (by first | (simp; done) | (simp; omega)) _ | refine Fr.trans ?_ (by assumption)))⟩
theorem ris_10 (t : Int) (h1 : (t == 9) = false) (h2 : (t == 10) = true) (H : ∀ w, Calls Tryz.prog 104 #[.int .i64 t] w fun e w' => e = .returned (.int .i64 0) ∧ Fr w w') (w : World) : Calls Tryz.prog 172 #[.int .i64 t] w fun e w' => e = .returned (.bool true) ∧ Fr w w' := by
  go_enter Tryz.func172, Tryz.ntmps172
  go_wp2_with (first | (go_at_call 104; refine (H _).mono ?_; rintro e w1 ⟨rfl, hF1⟩; have hz1 := hF1.size; (try simp at hz1); have hc1 := hF1.cells; have hf1 := hF1.froz))
  go_ret
  exact ⟨rfl, by (repeat (with_reducible first | exact Fr.refl _ | assumption | refine Fr.alloc ?_ _ | refine Fr.drew ?_ | refine Fr.drewN ?_ _ | refine Fr.set ?_ (by first | (simp; done) | (simp; omega)) _ | refine Fr.trans ?_ (by assumption)))⟩
theorem ris_15 (t : Int) (h1 : (t == 9) = false) (h2 : (t == 10) = false) (h3 : (t == 15) = true) (H : ∀ w, Calls Tryz.prog 104 #[.int .i64 t] w fun e w' => e = .returned (.int .i64 0) ∧ Fr w w') (w : World) : Calls Tryz.prog 172 #[.int .i64 t] w fun e w' => e = .returned (.bool true) ∧ Fr w w' := by
  go_enter Tryz.func172, Tryz.ntmps172
  go_wp2_with (first | (go_at_call 104; refine (H _).mono ?_; rintro e w1 ⟨rfl, hF1⟩; have hz1 := hF1.size; (try simp at hz1); have hc1 := hF1.cells; have hf1 := hF1.froz))
  go_ret
  exact ⟨rfl, by (repeat (with_reducible first | exact Fr.refl _ | assumption | refine Fr.alloc ?_ _ | refine Fr.drew ?_ | refine Fr.drewN ?_ _ | refine Fr.set ?_ (by first | (simp; done) | (simp; omega)) _ | refine Fr.trans ?_ (by assumption)))⟩
theorem ris_no (t : Int) (h1 : (t == 9) = false) (h2 : (t == 10) = false) (h3 : (t == 15) = false) (H : ∀ w, Calls Tryz.prog 104 #[.int .i64 t] w fun e w' => e = .returned (.int .i64 0) ∧ Fr w w') (w : World) : Calls Tryz.prog 172 #[.int .i64 t] w fun e w' => e = .returned (.bool false) ∧ Fr w w' := by
  go_enter Tryz.func172, Tryz.ntmps172
  go_wp2_with (first | (go_at_call 104; refine (H _).mono ?_; rintro e w1 ⟨rfl, hF1⟩; have hz1 := hF1.size; (try simp at hz1); have hc1 := hF1.cells; have hf1 := hF1.froz))
  go_ret
  exact ⟨rfl, by (repeat (with_reducible first | exact Fr.refl _ | assumption | refine Fr.alloc ?_ _ | refine Fr.drew ?_ | refine Fr.drewN ?_ _ | refine Fr.set ?_ (by first | (simp; done) | (simp; omega)) _ | refine Fr.trans ?_ (by assumption)))⟩
theorem ris_any (t : Int) (w : World) : Calls Tryz.prog 172 #[.int .i64 t] w fun e w' => e = .returned (.bool (isOf t)) ∧ Fr w w' := by
  have H := rsize_any t
  unfold isOf
  by_cases h : 0 < szOf t
  · rw [show decide (0 < szOf t ∨ t = 9 ∨ t = 10 ∨ t = 15) = true by simp [h]]
    exact ris_n t _ h H w
  · have h0 : szOf t = 0 := by rcases szOf_cases t with h1 | h1 | h1 | h1 | h1 <;> omega
    rw [h0] at H
    by_cases h9 : t = 9
    · rw [show decide (0 < szOf t ∨ t = 9 ∨ t = 10 ∨ t = 15) = true by simp [h9]]
      exact ris_9 t (beq_true h9) H w
    by_cases h10 : t = 10
    · rw [show decide (0 < szOf t ∨ t = 9 ∨ t = 10 ∨ t = 15) = true by simp [h10]]
      exact ris_10 t (beq_false h9) (beq_true h10) H w
    by_cases h15 : t = 15
    · rw [show decide (0 < szOf t ∨ t = 9 ∨ t = 10 ∨ t = 15) = true by simp [h15]]
      exact ris_15 t (beq_false h9) (beq_false h10) (beq_true h15) H w
    rw [show decide (0 < szOf t ∨ t = 9 ∨ t = 10 ∨ t = 15) = false by simp [h0, h9, h10, h15]]
    exact ris_no t (beq_false h9) (beq_false h10) (beq_false h15) H w

end Go.Proofs.YtmllpkpdfhniaaaGreat
